/-
  No cell of these rows narrows 'for every input' (looked for: loops, veiled, ifaces, maps, wideKeys, modest, calm, conditions, laid).
  DERIVED. THE GIVEN ROWS OF THIS SEAT. 12 by the template 'for every input the law returns true; each argument reads behind the call as it read before'; 0 by the template 'total and deterministic' (their statements: YtodpegnkengeiaaTotals.lean).
  GIVEN WITH THE SEED: the statements are not yours to turn. If you find one false, say at which input.
  Laid BY PROGRAM, IN A SANDBOX (cutbox-rows.mjs): the forced cells as the released guide's own fill.sh prints them over the translation be833c51ec80cb6c… (all of the seat's roots in one cut). By AI agents, Wed Nov 11 2026. No macro, syntax, notation, axiom, sorry.
-/
import Derived.Test.YtodpegnkengeiaaChecked
import GoSem.Claim
import GoSem.ClaimJoined
import GoSem.ClaimMapViews
import Derived.JoinedTies
import Derived.KernelRfl
namespace Go.Proofs.Ytodpegnkengeiaa
/- THE CELL 'sum', in the pinned program and in every row, IS THE sha256 OF THE DUMP (.gsa) THAT YtodpegnkengeiaaProg.lean LOADS. Nothing in Lean hashes anything: it is a label: what it is worth is what the hold of that sum in a sandbox is worth. -/
noncomputable def Try.pinned : Pinned := { name := "ytodpegnkengeiaa", sum := "be833c51ec80cb6c359acd8540b25d6dd37bef8c047f89e005327b8c8215e217", checked := Try.checked }
namespace Rows
def none {H : Type} : Left H := { results := [], args := [] }

/-- 'laws.FnExactAreEquivalent': WHATEVER THE INPUT: true; the input reads as it did. -/
def fnExactAreEquivalentSpec : ChangeSpec := { name := "fnExactAreEquivalent", fn := fun _ => fun
  | [d1, d2] => { results := [.lit (.bool true)], args := [d1, d2] }
  | _ => none }
def fnExactAreEquivalentRow : OpenClaim := { program := "ytodpegnkengeiaa", sum := "be833c51ec80cb6c359acd8540b25d6dd37bef8c047f89e005327b8c8215e217", func := "loop.example/g01066/laws.FnExactAreEquivalent", spec := "fnExactAreEquivalent", apart := false }
def FnExactAreEquivalentSaid : Prop := fnExactAreEquivalentRow.holds Try.pinned (OpenSpec.ofChange fnExactAreEquivalentSpec)

/-- ITS FALSE NEIGHBOUR: 'it returns false'. Refute it at one input. -/
def fnExactAreEquivalentWrong : ChangeSpec := { name := "fnExactAreEquivalent", fn := fun _ => fun
  | [d1, d2] => { results := [.lit (.bool false)], args := [d1, d2] }
  | _ => none }
def FnExactAreEquivalentWrongFalsely : Prop := fnExactAreEquivalentRow.holds Try.pinned (OpenSpec.ofChange fnExactAreEquivalentWrong)

/-- 'laws.FnExactReduceForm': WHATEVER THE INPUT: true; the input reads as it did. -/
def fnExactReduceFormSpec : ChangeSpec := { name := "fnExactReduceForm", fn := fun _ => fun
  | [d] => { results := [.lit (.bool true)], args := [d] }
  | _ => none }
def fnExactReduceFormRow : OpenClaim := { program := "ytodpegnkengeiaa", sum := "be833c51ec80cb6c359acd8540b25d6dd37bef8c047f89e005327b8c8215e217", func := "loop.example/g01066/laws.FnExactReduceForm", spec := "fnExactReduceForm", apart := false }
def FnExactReduceFormSaid : Prop := fnExactReduceFormRow.holds Try.pinned (OpenSpec.ofChange fnExactReduceFormSpec)

/-- ITS FALSE NEIGHBOUR: 'it returns false'. Refute it at one input. -/
def fnExactReduceFormWrong : ChangeSpec := { name := "fnExactReduceForm", fn := fun _ => fun
  | [d] => { results := [.lit (.bool false)], args := [d] }
  | _ => none }
def FnExactReduceFormWrongFalsely : Prop := fnExactReduceFormRow.holds Try.pinned (OpenSpec.ofChange fnExactReduceFormWrong)

/-- 'laws.FnExactReductionTrail': WHATEVER THE INPUT: true; the input reads as it did. -/
def fnExactReductionTrailSpec : ChangeSpec := { name := "fnExactReductionTrail", fn := fun _ => fun
  | [d] => { results := [.lit (.bool true)], args := [d] }
  | _ => none }
def fnExactReductionTrailRow : OpenClaim := { program := "ytodpegnkengeiaa", sum := "be833c51ec80cb6c359acd8540b25d6dd37bef8c047f89e005327b8c8215e217", func := "loop.example/g01066/laws.FnExactReductionTrail", spec := "fnExactReductionTrail", apart := false }
def FnExactReductionTrailSaid : Prop := fnExactReductionTrailRow.holds Try.pinned (OpenSpec.ofChange fnExactReductionTrailSpec)

/-- ITS FALSE NEIGHBOUR: 'it returns false'. Refute it at one input. -/
def fnExactReductionTrailWrong : ChangeSpec := { name := "fnExactReductionTrail", fn := fun _ => fun
  | [d] => { results := [.lit (.bool false)], args := [d] }
  | _ => none }
def FnExactReductionTrailWrongFalsely : Prop := fnExactReductionTrailRow.holds Try.pinned (OpenSpec.ofChange fnExactReductionTrailWrong)

/-- 'laws.FnExactRelationSum': WHATEVER THE INPUT: true; the input reads as it did. -/
def fnExactRelationSumSpec : ChangeSpec := { name := "fnExactRelationSum", fn := fun _ => fun
  | [d] => { results := [.lit (.bool true)], args := [d] }
  | _ => none }
def fnExactRelationSumRow : OpenClaim := { program := "ytodpegnkengeiaa", sum := "be833c51ec80cb6c359acd8540b25d6dd37bef8c047f89e005327b8c8215e217", func := "loop.example/g01066/laws.FnExactRelationSum", spec := "fnExactRelationSum", apart := false }
def FnExactRelationSumSaid : Prop := fnExactRelationSumRow.holds Try.pinned (OpenSpec.ofChange fnExactRelationSumSpec)

/-- ITS FALSE NEIGHBOUR: 'it returns false'. Refute it at one input. -/
def fnExactRelationSumWrong : ChangeSpec := { name := "fnExactRelationSum", fn := fun _ => fun
  | [d] => { results := [.lit (.bool false)], args := [d] }
  | _ => none }
def FnExactRelationSumWrongFalsely : Prop := fnExactRelationSumRow.holds Try.pinned (OpenSpec.ofChange fnExactRelationSumWrong)

/-- 'laws.FnExactHurwitzList': WHATEVER THE INPUT: true; the input reads as it did. -/
def fnExactHurwitzListSpec : ChangeSpec := { name := "fnExactHurwitzList", fn := fun _ => fun
  | [d] => { results := [.lit (.bool true)], args := [d] }
  | _ => none }
def fnExactHurwitzListRow : OpenClaim := { program := "ytodpegnkengeiaa", sum := "be833c51ec80cb6c359acd8540b25d6dd37bef8c047f89e005327b8c8215e217", func := "loop.example/g01066/laws.FnExactHurwitzList", spec := "fnExactHurwitzList", apart := false }
def FnExactHurwitzListSaid : Prop := fnExactHurwitzListRow.holds Try.pinned (OpenSpec.ofChange fnExactHurwitzListSpec)

/-- ITS FALSE NEIGHBOUR: 'it returns false'. Refute it at one input. -/
def fnExactHurwitzListWrong : ChangeSpec := { name := "fnExactHurwitzList", fn := fun _ => fun
  | [d] => { results := [.lit (.bool false)], args := [d] }
  | _ => none }
def FnExactHurwitzListWrongFalsely : Prop := fnExactHurwitzListRow.holds Try.pinned (OpenSpec.ofChange fnExactHurwitzListWrong)

/-- 'laws.FnExactRelationTerms': WHATEVER THE INPUT: true; the input reads as it did. -/
def fnExactRelationTermsSpec : ChangeSpec := { name := "fnExactRelationTerms", fn := fun _ => fun
  | [d] => { results := [.lit (.bool true)], args := [d] }
  | _ => none }
def fnExactRelationTermsRow : OpenClaim := { program := "ytodpegnkengeiaa", sum := "be833c51ec80cb6c359acd8540b25d6dd37bef8c047f89e005327b8c8215e217", func := "loop.example/g01066/laws.FnExactRelationTerms", spec := "fnExactRelationTerms", apart := false }
def FnExactRelationTermsSaid : Prop := fnExactRelationTermsRow.holds Try.pinned (OpenSpec.ofChange fnExactRelationTermsSpec)

/-- ITS FALSE NEIGHBOUR: 'it returns false'. Refute it at one input. -/
def fnExactRelationTermsWrong : ChangeSpec := { name := "fnExactRelationTerms", fn := fun _ => fun
  | [d] => { results := [.lit (.bool false)], args := [d] }
  | _ => none }
def FnExactRelationTermsWrongFalsely : Prop := fnExactRelationTermsRow.holds Try.pinned (OpenSpec.ofChange fnExactRelationTermsWrong)

/-- 'laws.FnExactHurwitzByConductors': WHATEVER THE INPUT: true; the input reads as it did. -/
def fnExactHurwitzByConductorsSpec : ChangeSpec := { name := "fnExactHurwitzByConductors", fn := fun _ => fun
  | [d] => { results := [.lit (.bool true)], args := [d] }
  | _ => none }
def fnExactHurwitzByConductorsRow : OpenClaim := { program := "ytodpegnkengeiaa", sum := "be833c51ec80cb6c359acd8540b25d6dd37bef8c047f89e005327b8c8215e217", func := "loop.example/g01066/laws.FnExactHurwitzByConductors", spec := "fnExactHurwitzByConductors", apart := false }
def FnExactHurwitzByConductorsSaid : Prop := fnExactHurwitzByConductorsRow.holds Try.pinned (OpenSpec.ofChange fnExactHurwitzByConductorsSpec)

/-- ITS FALSE NEIGHBOUR: 'it returns false'. Refute it at one input. -/
def fnExactHurwitzByConductorsWrong : ChangeSpec := { name := "fnExactHurwitzByConductors", fn := fun _ => fun
  | [d] => { results := [.lit (.bool false)], args := [d] }
  | _ => none }
def FnExactHurwitzByConductorsWrongFalsely : Prop := fnExactHurwitzByConductorsRow.holds Try.pinned (OpenSpec.ofChange fnExactHurwitzByConductorsWrong)

/-- 'laws.FnExactProperPairs': WHATEVER THE INPUT: true; the input reads as it did. -/
def fnExactProperPairsSpec : ChangeSpec := { name := "fnExactProperPairs", fn := fun _ => fun
  | [d1, d2] => { results := [.lit (.bool true)], args := [d1, d2] }
  | _ => none }
def fnExactProperPairsRow : OpenClaim := { program := "ytodpegnkengeiaa", sum := "be833c51ec80cb6c359acd8540b25d6dd37bef8c047f89e005327b8c8215e217", func := "loop.example/g01066/laws.FnExactProperPairs", spec := "fnExactProperPairs", apart := false }
def FnExactProperPairsSaid : Prop := fnExactProperPairsRow.holds Try.pinned (OpenSpec.ofChange fnExactProperPairsSpec)

/-- ITS FALSE NEIGHBOUR: 'it returns false'. Refute it at one input. -/
def fnExactProperPairsWrong : ChangeSpec := { name := "fnExactProperPairs", fn := fun _ => fun
  | [d1, d2] => { results := [.lit (.bool false)], args := [d1, d2] }
  | _ => none }
def FnExactProperPairsWrongFalsely : Prop := fnExactProperPairsRow.holds Try.pinned (OpenSpec.ofChange fnExactProperPairsWrong)

/-- 'laws.FnExactIsComposition': WHATEVER THE INPUT: true; the input reads as it did. -/
def fnExactIsCompositionSpec : ChangeSpec := { name := "fnExactIsComposition", fn := fun _ => fun
  | [d1, d2, d3, d4] => { results := [.lit (.bool true)], args := [d1, d2, d3, d4] }
  | _ => none }
def fnExactIsCompositionRow : OpenClaim := { program := "ytodpegnkengeiaa", sum := "be833c51ec80cb6c359acd8540b25d6dd37bef8c047f89e005327b8c8215e217", func := "loop.example/g01066/laws.FnExactIsComposition", spec := "fnExactIsComposition", apart := false }
def FnExactIsCompositionSaid : Prop := fnExactIsCompositionRow.holds Try.pinned (OpenSpec.ofChange fnExactIsCompositionSpec)

/-- ITS FALSE NEIGHBOUR: 'it returns false'. Refute it at one input. -/
def fnExactIsCompositionWrong : ChangeSpec := { name := "fnExactIsComposition", fn := fun _ => fun
  | [d1, d2, d3, d4] => { results := [.lit (.bool false)], args := [d1, d2, d3, d4] }
  | _ => none }
def FnExactIsCompositionWrongFalsely : Prop := fnExactIsCompositionRow.holds Try.pinned (OpenSpec.ofChange fnExactIsCompositionWrong)

/-- 'laws.FnExactRiverForm': WHATEVER THE INPUT: true; the input reads as it did. -/
def fnExactRiverFormSpec : ChangeSpec := { name := "fnExactRiverForm", fn := fun _ => fun
  | [d] => { results := [.lit (.bool true)], args := [d] }
  | _ => none }
def fnExactRiverFormRow : OpenClaim := { program := "ytodpegnkengeiaa", sum := "be833c51ec80cb6c359acd8540b25d6dd37bef8c047f89e005327b8c8215e217", func := "loop.example/g01066/laws.FnExactRiverForm", spec := "fnExactRiverForm", unfollowed := true, recurses := true, apart := false }
def FnExactRiverFormSaid : Prop := fnExactRiverFormRow.holds Try.pinned (OpenSpec.ofChange fnExactRiverFormSpec)

/-- ITS FALSE NEIGHBOUR: 'it returns false'. Refute it at one input. -/
def fnExactRiverFormWrong : ChangeSpec := { name := "fnExactRiverForm", fn := fun _ => fun
  | [d] => { results := [.lit (.bool false)], args := [d] }
  | _ => none }
def FnExactRiverFormWrongFalsely : Prop := fnExactRiverFormRow.holds Try.pinned (OpenSpec.ofChange fnExactRiverFormWrong)

/-- 'laws.FnExactPathTo': WHATEVER THE INPUT: true; the input reads as it did. -/
def fnExactPathToSpec : ChangeSpec := { name := "fnExactPathTo", fn := fun _ => fun
  | [d] => { results := [.lit (.bool true)], args := [d] }
  | _ => none }
def fnExactPathToRow : OpenClaim := { program := "ytodpegnkengeiaa", sum := "be833c51ec80cb6c359acd8540b25d6dd37bef8c047f89e005327b8c8215e217", func := "loop.example/g01066/laws.FnExactPathTo", spec := "fnExactPathTo", unfollowed := true, recurses := true, apart := false }
def FnExactPathToSaid : Prop := fnExactPathToRow.holds Try.pinned (OpenSpec.ofChange fnExactPathToSpec)

/-- ITS FALSE NEIGHBOUR: 'it returns false'. Refute it at one input. -/
def fnExactPathToWrong : ChangeSpec := { name := "fnExactPathTo", fn := fun _ => fun
  | [d] => { results := [.lit (.bool false)], args := [d] }
  | _ => none }
def FnExactPathToWrongFalsely : Prop := fnExactPathToRow.holds Try.pinned (OpenSpec.ofChange fnExactPathToWrong)

/-- 'laws.FnExactDescentTrail': WHATEVER THE INPUT: true; the input reads as it did. -/
def fnExactDescentTrailSpec : ChangeSpec := { name := "fnExactDescentTrail", fn := fun _ => fun
  | [d1, d2] => { results := [.lit (.bool true)], args := [d1, d2] }
  | _ => none }
def fnExactDescentTrailRow : OpenClaim := { program := "ytodpegnkengeiaa", sum := "be833c51ec80cb6c359acd8540b25d6dd37bef8c047f89e005327b8c8215e217", func := "loop.example/g01066/laws.FnExactDescentTrail", spec := "fnExactDescentTrail", apart := false }
def FnExactDescentTrailSaid : Prop := fnExactDescentTrailRow.holds Try.pinned (OpenSpec.ofChange fnExactDescentTrailSpec)

/-- ITS FALSE NEIGHBOUR: 'it returns false'. Refute it at one input. -/
def fnExactDescentTrailWrong : ChangeSpec := { name := "fnExactDescentTrail", fn := fun _ => fun
  | [d1, d2] => { results := [.lit (.bool false)], args := [d1, d2] }
  | _ => none }
def FnExactDescentTrailWrongFalsely : Prop := fnExactDescentTrailRow.holds Try.pinned (OpenSpec.ofChange fnExactDescentTrailWrong)

/- THE SECOND FORM. 'bulk': how many values and letters a reading holds, each counted each time it is reached (what is shared counts as often as it is met; a slice's spare places count too). A statement '..UptoSaid' is the law's where the arguments, and the package variables that the reading takes, are together of bulk at most 1048576: NARROWER than '..Said'. Prove '..Said' where nothing that the law and all that it calls make is longer than what came in: it says more and counts as full. Else prove '..UptoSaid'. A law counts once. -/
mutual
def uptoBulk {H : Type} : DataW H → Nat
  | .lit (.string bytes) => bytes.length + 1
  | .lit _ => 1
  | .nil => 1
  | .ptr d => uptoBulk d + 1
  | .slice elems spare => uptoBulkAll elems + uptoBulkAll spare + 1
  | .agg parts => uptoBulkAll parts + 1
  | .iface _ d => uptoBulk d + 1
  | .map entries => uptoBulkEntries entries + 1
  | .held _ => 1
def uptoBulkAll {H : Type} : List (DataW H) → Nat
  | [] => 0
  | d :: r => uptoBulk d + uptoBulkAll r
def uptoBulkEntries {H : Type} : List (Lit × DataW H) → Nat
  | [] => 0
  | x :: r => uptoBulkEntry x + uptoBulkEntries r
def uptoBulkEntry {H : Type} : Lit × DataW H → Nat
  | (.string bytes, d) => bytes.length + uptoBulk d + 1
  | (_, d) => uptoBulk d + 1
 end
def uptoSmall : (H : Type) → List (DataW H) → Bool := fun _ ds => decide (uptoBulkAll ds ≤ 1048576)
def OpenSpec.upto (s : _root_.Go.ChangeSpec) : _root_.Go.OpenSpec := { _root_.Go.OpenSpec.ofChange s with cond := some uptoSmall }

/-- 'laws.FnExactAreEquivalent', WHERE WHAT IT READS IS OF BULK AT MOST 1048576: true; the input reads as it did. -/
def fnExactAreEquivalentUptoRow : OpenClaim := { program := "ytodpegnkengeiaa", sum := "be833c51ec80cb6c359acd8540b25d6dd37bef8c047f89e005327b8c8215e217", func := "loop.example/g01066/laws.FnExactAreEquivalent", spec := "fnExactAreEquivalent", apart := false, narrowed := true }
def FnExactAreEquivalentUptoSaid : Prop := fnExactAreEquivalentUptoRow.holds Try.pinned (OpenSpec.upto fnExactAreEquivalentSpec)

/-- 'laws.FnExactReduceForm', WHERE WHAT IT READS IS OF BULK AT MOST 1048576: true; the input reads as it did. -/
def fnExactReduceFormUptoRow : OpenClaim := { program := "ytodpegnkengeiaa", sum := "be833c51ec80cb6c359acd8540b25d6dd37bef8c047f89e005327b8c8215e217", func := "loop.example/g01066/laws.FnExactReduceForm", spec := "fnExactReduceForm", apart := false, narrowed := true }
def FnExactReduceFormUptoSaid : Prop := fnExactReduceFormUptoRow.holds Try.pinned (OpenSpec.upto fnExactReduceFormSpec)

/-- 'laws.FnExactReductionTrail', WHERE WHAT IT READS IS OF BULK AT MOST 1048576: true; the input reads as it did. -/
def fnExactReductionTrailUptoRow : OpenClaim := { program := "ytodpegnkengeiaa", sum := "be833c51ec80cb6c359acd8540b25d6dd37bef8c047f89e005327b8c8215e217", func := "loop.example/g01066/laws.FnExactReductionTrail", spec := "fnExactReductionTrail", apart := false, narrowed := true }
def FnExactReductionTrailUptoSaid : Prop := fnExactReductionTrailUptoRow.holds Try.pinned (OpenSpec.upto fnExactReductionTrailSpec)

/-- 'laws.FnExactRelationSum', WHERE WHAT IT READS IS OF BULK AT MOST 1048576: true; the input reads as it did. -/
def fnExactRelationSumUptoRow : OpenClaim := { program := "ytodpegnkengeiaa", sum := "be833c51ec80cb6c359acd8540b25d6dd37bef8c047f89e005327b8c8215e217", func := "loop.example/g01066/laws.FnExactRelationSum", spec := "fnExactRelationSum", apart := false, narrowed := true }
def FnExactRelationSumUptoSaid : Prop := fnExactRelationSumUptoRow.holds Try.pinned (OpenSpec.upto fnExactRelationSumSpec)

/-- 'laws.FnExactHurwitzList', WHERE WHAT IT READS IS OF BULK AT MOST 1048576: true; the input reads as it did. -/
def fnExactHurwitzListUptoRow : OpenClaim := { program := "ytodpegnkengeiaa", sum := "be833c51ec80cb6c359acd8540b25d6dd37bef8c047f89e005327b8c8215e217", func := "loop.example/g01066/laws.FnExactHurwitzList", spec := "fnExactHurwitzList", apart := false, narrowed := true }
def FnExactHurwitzListUptoSaid : Prop := fnExactHurwitzListUptoRow.holds Try.pinned (OpenSpec.upto fnExactHurwitzListSpec)

/-- 'laws.FnExactRelationTerms', WHERE WHAT IT READS IS OF BULK AT MOST 1048576: true; the input reads as it did. -/
def fnExactRelationTermsUptoRow : OpenClaim := { program := "ytodpegnkengeiaa", sum := "be833c51ec80cb6c359acd8540b25d6dd37bef8c047f89e005327b8c8215e217", func := "loop.example/g01066/laws.FnExactRelationTerms", spec := "fnExactRelationTerms", apart := false, narrowed := true }
def FnExactRelationTermsUptoSaid : Prop := fnExactRelationTermsUptoRow.holds Try.pinned (OpenSpec.upto fnExactRelationTermsSpec)

/-- 'laws.FnExactHurwitzByConductors', WHERE WHAT IT READS IS OF BULK AT MOST 1048576: true; the input reads as it did. -/
def fnExactHurwitzByConductorsUptoRow : OpenClaim := { program := "ytodpegnkengeiaa", sum := "be833c51ec80cb6c359acd8540b25d6dd37bef8c047f89e005327b8c8215e217", func := "loop.example/g01066/laws.FnExactHurwitzByConductors", spec := "fnExactHurwitzByConductors", apart := false, narrowed := true }
def FnExactHurwitzByConductorsUptoSaid : Prop := fnExactHurwitzByConductorsUptoRow.holds Try.pinned (OpenSpec.upto fnExactHurwitzByConductorsSpec)

/-- 'laws.FnExactProperPairs', WHERE WHAT IT READS IS OF BULK AT MOST 1048576: true; the input reads as it did. -/
def fnExactProperPairsUptoRow : OpenClaim := { program := "ytodpegnkengeiaa", sum := "be833c51ec80cb6c359acd8540b25d6dd37bef8c047f89e005327b8c8215e217", func := "loop.example/g01066/laws.FnExactProperPairs", spec := "fnExactProperPairs", apart := false, narrowed := true }
def FnExactProperPairsUptoSaid : Prop := fnExactProperPairsUptoRow.holds Try.pinned (OpenSpec.upto fnExactProperPairsSpec)

/-- 'laws.FnExactIsComposition', WHERE WHAT IT READS IS OF BULK AT MOST 1048576: true; the input reads as it did. -/
def fnExactIsCompositionUptoRow : OpenClaim := { program := "ytodpegnkengeiaa", sum := "be833c51ec80cb6c359acd8540b25d6dd37bef8c047f89e005327b8c8215e217", func := "loop.example/g01066/laws.FnExactIsComposition", spec := "fnExactIsComposition", apart := false, narrowed := true }
def FnExactIsCompositionUptoSaid : Prop := fnExactIsCompositionUptoRow.holds Try.pinned (OpenSpec.upto fnExactIsCompositionSpec)

/-- 'laws.FnExactRiverForm', WHERE WHAT IT READS IS OF BULK AT MOST 1048576: true; the input reads as it did. -/
def fnExactRiverFormUptoRow : OpenClaim := { program := "ytodpegnkengeiaa", sum := "be833c51ec80cb6c359acd8540b25d6dd37bef8c047f89e005327b8c8215e217", func := "loop.example/g01066/laws.FnExactRiverForm", spec := "fnExactRiverForm", unfollowed := true, recurses := true, apart := false, narrowed := true }
def FnExactRiverFormUptoSaid : Prop := fnExactRiverFormUptoRow.holds Try.pinned (OpenSpec.upto fnExactRiverFormSpec)

/-- 'laws.FnExactPathTo', WHERE WHAT IT READS IS OF BULK AT MOST 1048576: true; the input reads as it did. -/
def fnExactPathToUptoRow : OpenClaim := { program := "ytodpegnkengeiaa", sum := "be833c51ec80cb6c359acd8540b25d6dd37bef8c047f89e005327b8c8215e217", func := "loop.example/g01066/laws.FnExactPathTo", spec := "fnExactPathTo", unfollowed := true, recurses := true, apart := false, narrowed := true }
def FnExactPathToUptoSaid : Prop := fnExactPathToUptoRow.holds Try.pinned (OpenSpec.upto fnExactPathToSpec)

/-- 'laws.FnExactDescentTrail', WHERE WHAT IT READS IS OF BULK AT MOST 1048576: true; the input reads as it did. -/
def fnExactDescentTrailUptoRow : OpenClaim := { program := "ytodpegnkengeiaa", sum := "be833c51ec80cb6c359acd8540b25d6dd37bef8c047f89e005327b8c8215e217", func := "loop.example/g01066/laws.FnExactDescentTrail", spec := "fnExactDescentTrail", apart := false, narrowed := true }
def FnExactDescentTrailUptoSaid : Prop := fnExactDescentTrailUptoRow.holds Try.pinned (OpenSpec.upto fnExactDescentTrailSpec)

end Rows
end Go.Proofs.Ytodpegnkengeiaa
