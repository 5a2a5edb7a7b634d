/-
  No cell of these rows narrows 'for every input' (looked for: loops, veiled, ifaces, maps, wideKeys, modest, calm, conditions, laid).
  DERIVED. THE GIVEN ROWS OF THIS SEAT. 12 by the template 'for every input the law returns true; each argument reads behind the call as it read before'; 0 by the template 'total and deterministic' (their statements: YtnpmkomnafdgnaaTotals.lean).
  GIVEN WITH THE SEED: the statements are not yours to turn. If you find one false, say at which input.
  Laid BY PROGRAM, IN A SANDBOX (cutbox-rows.mjs): the forced cells as the released guide's own fill.sh prints them over the translation 9b3fefa84f3a4f1e… (all of the seat's roots in one cut). By AI agents, Wed Nov 11 2026. No macro, syntax, notation, axiom, sorry.
-/
import Derived.Test.YtnpmkomnafdgnaaChecked
import GoSem.Claim
import GoSem.ClaimJoined
import GoSem.ClaimMapViews
import Derived.JoinedTies
import Derived.KernelRfl
namespace Go.Proofs.Ytnpmkomnafdgnaa
/- THE CELL 'sum', in the pinned program and in every row, IS THE sha256 OF THE DUMP (.gsa) THAT YtnpmkomnafdgnaaProg.lean LOADS. Nothing in Lean hashes anything: it is a label: what it is worth is what the hold of that sum in a sandbox is worth. -/
noncomputable def Try.pinned : Pinned := { name := "ytnpmkomnafdgnaa", sum := "9b3fefa84f3a4f1e430a9356ddb90b103a2e9723346ef9f81efe4ff87af8743f", checked := Try.checked }
namespace Rows
def none {H : Type} : Left H := { results := [], args := [] }

/-- 'laws.FnExactCountModulo': WHATEVER THE INPUT: true; the input reads as it did. -/
def fnExactCountModuloSpec : ChangeSpec := { name := "fnExactCountModulo", fn := fun _ => fun
  | [d1, d2] => { results := [.lit (.bool true)], args := [d1, d2] }
  | _ => none }
def fnExactCountModuloRow : OpenClaim := { program := "ytnpmkomnafdgnaa", sum := "9b3fefa84f3a4f1e430a9356ddb90b103a2e9723346ef9f81efe4ff87af8743f", func := "loop.example/g01066/laws.FnExactCountModulo", spec := "fnExactCountModulo", apart := false }
def FnExactCountModuloSaid : Prop := fnExactCountModuloRow.holds Try.pinned (OpenSpec.ofChange fnExactCountModuloSpec)

/-- ITS FALSE NEIGHBOUR: 'it returns false'. Refute it at one input. -/
def fnExactCountModuloWrong : ChangeSpec := { name := "fnExactCountModulo", fn := fun _ => fun
  | [d1, d2] => { results := [.lit (.bool false)], args := [d1, d2] }
  | _ => none }
def FnExactCountModuloWrongFalsely : Prop := fnExactCountModuloRow.holds Try.pinned (OpenSpec.ofChange fnExactCountModuloWrong)

/-- 'laws.FnExactPrincipalResidues': WHATEVER THE INPUT: true; the input reads as it did. -/
def fnExactPrincipalResiduesSpec : ChangeSpec := { name := "fnExactPrincipalResidues", fn := fun _ => fun
  | [d] => { results := [.lit (.bool true)], args := [d] }
  | _ => none }
def fnExactPrincipalResiduesRow : OpenClaim := { program := "ytnpmkomnafdgnaa", sum := "9b3fefa84f3a4f1e430a9356ddb90b103a2e9723346ef9f81efe4ff87af8743f", func := "loop.example/g01066/laws.FnExactPrincipalResidues", spec := "fnExactPrincipalResidues", apart := false }
def FnExactPrincipalResiduesSaid : Prop := fnExactPrincipalResiduesRow.holds Try.pinned (OpenSpec.ofChange fnExactPrincipalResiduesSpec)

/-- ITS FALSE NEIGHBOUR: 'it returns false'. Refute it at one input. -/
def fnExactPrincipalResiduesWrong : ChangeSpec := { name := "fnExactPrincipalResidues", fn := fun _ => fun
  | [d] => { results := [.lit (.bool false)], args := [d] }
  | _ => none }
def FnExactPrincipalResiduesWrongFalsely : Prop := fnExactPrincipalResiduesRow.holds Try.pinned (OpenSpec.ofChange fnExactPrincipalResiduesWrong)

/-- 'laws.FnExactIsNormalTriple': WHATEVER THE INPUT: true; the input reads as it did. -/
def fnExactIsNormalTripleSpec : ChangeSpec := { name := "fnExactIsNormalTriple", fn := fun _ => fun
  | [d] => { results := [.lit (.bool true)], args := [d] }
  | _ => none }
def fnExactIsNormalTripleRow : OpenClaim := { program := "ytnpmkomnafdgnaa", sum := "9b3fefa84f3a4f1e430a9356ddb90b103a2e9723346ef9f81efe4ff87af8743f", func := "loop.example/g01066/laws.FnExactIsNormalTriple", spec := "fnExactIsNormalTriple", apart := false }
def FnExactIsNormalTripleSaid : Prop := fnExactIsNormalTripleRow.holds Try.pinned (OpenSpec.ofChange fnExactIsNormalTripleSpec)

/-- ITS FALSE NEIGHBOUR: 'it returns false'. Refute it at one input. -/
def fnExactIsNormalTripleWrong : ChangeSpec := { name := "fnExactIsNormalTriple", fn := fun _ => fun
  | [d] => { results := [.lit (.bool false)], args := [d] }
  | _ => none }
def FnExactIsNormalTripleWrongFalsely : Prop := fnExactIsNormalTripleRow.holds Try.pinned (OpenSpec.ofChange fnExactIsNormalTripleWrong)

/-- 'laws.FnExactCornacchiaSteps': WHATEVER THE INPUT: true; the input reads as it did. -/
def fnExactCornacchiaStepsSpec : ChangeSpec := { name := "fnExactCornacchiaSteps", fn := fun _ => fun
  | [d1, d2] => { results := [.lit (.bool true)], args := [d1, d2] }
  | _ => none }
def fnExactCornacchiaStepsRow : OpenClaim := { program := "ytnpmkomnafdgnaa", sum := "9b3fefa84f3a4f1e430a9356ddb90b103a2e9723346ef9f81efe4ff87af8743f", func := "loop.example/g01066/laws.FnExactCornacchiaSteps", spec := "fnExactCornacchiaSteps", apart := false }
def FnExactCornacchiaStepsSaid : Prop := fnExactCornacchiaStepsRow.holds Try.pinned (OpenSpec.ofChange fnExactCornacchiaStepsSpec)

/-- ITS FALSE NEIGHBOUR: 'it returns false'. Refute it at one input. -/
def fnExactCornacchiaStepsWrong : ChangeSpec := { name := "fnExactCornacchiaSteps", fn := fun _ => fun
  | [d1, d2] => { results := [.lit (.bool false)], args := [d1, d2] }
  | _ => none }
def FnExactCornacchiaStepsWrongFalsely : Prop := fnExactCornacchiaStepsRow.holds Try.pinned (OpenSpec.ofChange fnExactCornacchiaStepsWrong)

/-- 'laws.FnExactSolutionModulo': WHATEVER THE INPUT: true; the input reads as it did. -/
def fnExactSolutionModuloSpec : ChangeSpec := { name := "fnExactSolutionModulo", fn := fun _ => fun
  | [d1, d2, d3, d4] => { results := [.lit (.bool true)], args := [d1, d2, d3, d4] }
  | _ => none }
def fnExactSolutionModuloRow : OpenClaim := { program := "ytnpmkomnafdgnaa", sum := "9b3fefa84f3a4f1e430a9356ddb90b103a2e9723346ef9f81efe4ff87af8743f", func := "loop.example/g01066/laws.FnExactSolutionModulo", spec := "fnExactSolutionModulo", apart := false }
def FnExactSolutionModuloSaid : Prop := fnExactSolutionModuloRow.holds Try.pinned (OpenSpec.ofChange fnExactSolutionModuloSpec)

/-- ITS FALSE NEIGHBOUR: 'it returns false'. Refute it at one input. -/
def fnExactSolutionModuloWrong : ChangeSpec := { name := "fnExactSolutionModulo", fn := fun _ => fun
  | [d1, d2, d3, d4] => { results := [.lit (.bool false)], args := [d1, d2, d3, d4] }
  | _ => none }
def FnExactSolutionModuloWrongFalsely : Prop := fnExactSolutionModuloRow.holds Try.pinned (OpenSpec.ofChange fnExactSolutionModuloWrong)

/-- 'laws.FnExactCornacchia': WHATEVER THE INPUT: true; the input reads as it did. -/
def fnExactCornacchiaSpec : ChangeSpec := { name := "fnExactCornacchia", fn := fun _ => fun
  | [d1, d2] => { results := [.lit (.bool true)], args := [d1, d2] }
  | _ => none }
def fnExactCornacchiaRow : OpenClaim := { program := "ytnpmkomnafdgnaa", sum := "9b3fefa84f3a4f1e430a9356ddb90b103a2e9723346ef9f81efe4ff87af8743f", func := "loop.example/g01066/laws.FnExactCornacchia", spec := "fnExactCornacchia", apart := false }
def FnExactCornacchiaSaid : Prop := fnExactCornacchiaRow.holds Try.pinned (OpenSpec.ofChange fnExactCornacchiaSpec)

/-- ITS FALSE NEIGHBOUR: 'it returns false'. Refute it at one input. -/
def fnExactCornacchiaWrong : ChangeSpec := { name := "fnExactCornacchia", fn := fun _ => fun
  | [d1, d2] => { results := [.lit (.bool false)], args := [d1, d2] }
  | _ => none }
def FnExactCornacchiaWrongFalsely : Prop := fnExactCornacchiaRow.holds Try.pinned (OpenSpec.ofChange fnExactCornacchiaWrong)

/-- 'laws.FnExactHurwitzNumber': WHATEVER THE INPUT: true; the input reads as it did. -/
def fnExactHurwitzNumberSpec : ChangeSpec := { name := "fnExactHurwitzNumber", fn := fun _ => fun
  | [d] => { results := [.lit (.bool true)], args := [d] }
  | _ => none }
def fnExactHurwitzNumberRow : OpenClaim := { program := "ytnpmkomnafdgnaa", sum := "9b3fefa84f3a4f1e430a9356ddb90b103a2e9723346ef9f81efe4ff87af8743f", func := "loop.example/g01066/laws.FnExactHurwitzNumber", spec := "fnExactHurwitzNumber", apart := false }
def FnExactHurwitzNumberSaid : Prop := fnExactHurwitzNumberRow.holds Try.pinned (OpenSpec.ofChange fnExactHurwitzNumberSpec)

/-- ITS FALSE NEIGHBOUR: 'it returns false'. Refute it at one input. -/
def fnExactHurwitzNumberWrong : ChangeSpec := { name := "fnExactHurwitzNumber", fn := fun _ => fun
  | [d] => { results := [.lit (.bool false)], args := [d] }
  | _ => none }
def FnExactHurwitzNumberWrongFalsely : Prop := fnExactHurwitzNumberRow.holds Try.pinned (OpenSpec.ofChange fnExactHurwitzNumberWrong)

/-- 'laws.FnExactClassNumber': WHATEVER THE INPUT: true; the input reads as it did. -/
def fnExactClassNumberSpec : ChangeSpec := { name := "fnExactClassNumber", fn := fun _ => fun
  | [d] => { results := [.lit (.bool true)], args := [d] }
  | _ => none }
def fnExactClassNumberRow : OpenClaim := { program := "ytnpmkomnafdgnaa", sum := "9b3fefa84f3a4f1e430a9356ddb90b103a2e9723346ef9f81efe4ff87af8743f", func := "loop.example/g01066/laws.FnExactClassNumber", spec := "fnExactClassNumber", apart := false }
def FnExactClassNumberSaid : Prop := fnExactClassNumberRow.holds Try.pinned (OpenSpec.ofChange fnExactClassNumberSpec)

/-- ITS FALSE NEIGHBOUR: 'it returns false'. Refute it at one input. -/
def fnExactClassNumberWrong : ChangeSpec := { name := "fnExactClassNumber", fn := fun _ => fun
  | [d] => { results := [.lit (.bool false)], args := [d] }
  | _ => none }
def FnExactClassNumberWrongFalsely : Prop := fnExactClassNumberRow.holds Try.pinned (OpenSpec.ofChange fnExactClassNumberWrong)

/-- 'laws.FnExactAllReducedForms': WHATEVER THE INPUT: true; the input reads as it did. -/
def fnExactAllReducedFormsSpec : ChangeSpec := { name := "fnExactAllReducedForms", fn := fun _ => fun
  | [d] => { results := [.lit (.bool true)], args := [d] }
  | _ => none }
def fnExactAllReducedFormsRow : OpenClaim := { program := "ytnpmkomnafdgnaa", sum := "9b3fefa84f3a4f1e430a9356ddb90b103a2e9723346ef9f81efe4ff87af8743f", func := "loop.example/g01066/laws.FnExactAllReducedForms", spec := "fnExactAllReducedForms", apart := false }
def FnExactAllReducedFormsSaid : Prop := fnExactAllReducedFormsRow.holds Try.pinned (OpenSpec.ofChange fnExactAllReducedFormsSpec)

/-- ITS FALSE NEIGHBOUR: 'it returns false'. Refute it at one input. -/
def fnExactAllReducedFormsWrong : ChangeSpec := { name := "fnExactAllReducedForms", fn := fun _ => fun
  | [d] => { results := [.lit (.bool false)], args := [d] }
  | _ => none }
def FnExactAllReducedFormsWrongFalsely : Prop := fnExactAllReducedFormsRow.holds Try.pinned (OpenSpec.ofChange fnExactAllReducedFormsWrong)

/-- 'laws.FnExactPrimeForm': WHATEVER THE INPUT: true; the input reads as it did. -/
def fnExactPrimeFormSpec : ChangeSpec := { name := "fnExactPrimeForm", fn := fun _ => fun
  | [d1, d2] => { results := [.lit (.bool true)], args := [d1, d2] }
  | _ => none }
def fnExactPrimeFormRow : OpenClaim := { program := "ytnpmkomnafdgnaa", sum := "9b3fefa84f3a4f1e430a9356ddb90b103a2e9723346ef9f81efe4ff87af8743f", func := "loop.example/g01066/laws.FnExactPrimeForm", spec := "fnExactPrimeForm", apart := false }
def FnExactPrimeFormSaid : Prop := fnExactPrimeFormRow.holds Try.pinned (OpenSpec.ofChange fnExactPrimeFormSpec)

/-- ITS FALSE NEIGHBOUR: 'it returns false'. Refute it at one input. -/
def fnExactPrimeFormWrong : ChangeSpec := { name := "fnExactPrimeForm", fn := fun _ => fun
  | [d1, d2] => { results := [.lit (.bool false)], args := [d1, d2] }
  | _ => none }
def FnExactPrimeFormWrongFalsely : Prop := fnExactPrimeFormRow.holds Try.pinned (OpenSpec.ofChange fnExactPrimeFormWrong)

/-- 'laws.FnExactLegendreRoots': WHATEVER THE INPUT: true; the input reads as it did. -/
def fnExactLegendreRootsSpec : ChangeSpec := { name := "fnExactLegendreRoots", fn := fun _ => fun
  | [d] => { results := [.lit (.bool true)], args := [d] }
  | _ => none }
def fnExactLegendreRootsRow : OpenClaim := { program := "ytnpmkomnafdgnaa", sum := "9b3fefa84f3a4f1e430a9356ddb90b103a2e9723346ef9f81efe4ff87af8743f", func := "loop.example/g01066/laws.FnExactLegendreRoots", spec := "fnExactLegendreRoots", apart := false }
def FnExactLegendreRootsSaid : Prop := fnExactLegendreRootsRow.holds Try.pinned (OpenSpec.ofChange fnExactLegendreRootsSpec)

/-- ITS FALSE NEIGHBOUR: 'it returns false'. Refute it at one input. -/
def fnExactLegendreRootsWrong : ChangeSpec := { name := "fnExactLegendreRoots", fn := fun _ => fun
  | [d] => { results := [.lit (.bool false)], args := [d] }
  | _ => none }
def FnExactLegendreRootsWrongFalsely : Prop := fnExactLegendreRootsRow.holds Try.pinned (OpenSpec.ofChange fnExactLegendreRootsWrong)

/-- 'laws.FnExactReducingStep': WHATEVER THE INPUT: true; the input reads as it did. -/
def fnExactReducingStepSpec : ChangeSpec := { name := "fnExactReducingStep", fn := fun _ => fun
  | [d] => { results := [.lit (.bool true)], args := [d] }
  | _ => none }
def fnExactReducingStepRow : OpenClaim := { program := "ytnpmkomnafdgnaa", sum := "9b3fefa84f3a4f1e430a9356ddb90b103a2e9723346ef9f81efe4ff87af8743f", func := "loop.example/g01066/laws.FnExactReducingStep", spec := "fnExactReducingStep", apart := false }
def FnExactReducingStepSaid : Prop := fnExactReducingStepRow.holds Try.pinned (OpenSpec.ofChange fnExactReducingStepSpec)

/-- ITS FALSE NEIGHBOUR: 'it returns false'. Refute it at one input. -/
def fnExactReducingStepWrong : ChangeSpec := { name := "fnExactReducingStep", fn := fun _ => fun
  | [d] => { results := [.lit (.bool false)], args := [d] }
  | _ => none }
def FnExactReducingStepWrongFalsely : Prop := fnExactReducingStepRow.holds Try.pinned (OpenSpec.ofChange fnExactReducingStepWrong)

/- THE SECOND FORM. 'bulk': how many values and letters a reading holds, each counted each time it is reached (what is shared counts as often as it is met; a slice's spare places count too). A statement '..UptoSaid' is the law's where the arguments, and the package variables that the reading takes, are together of bulk at most 1048576: NARROWER than '..Said'. Prove '..Said' where nothing that the law and all that it calls make is longer than what came in: it says more and counts as full. Else prove '..UptoSaid'. A law counts once. -/
mutual
def uptoBulk {H : Type} : DataW H → Nat
  | .lit (.string bytes) => bytes.length + 1
  | .lit _ => 1
  | .nil => 1
  | .ptr d => uptoBulk d + 1
  | .slice elems spare => uptoBulkAll elems + uptoBulkAll spare + 1
  | .agg parts => uptoBulkAll parts + 1
  | .iface _ d => uptoBulk d + 1
  | .map entries => uptoBulkEntries entries + 1
  | .held _ => 1
def uptoBulkAll {H : Type} : List (DataW H) → Nat
  | [] => 0
  | d :: r => uptoBulk d + uptoBulkAll r
def uptoBulkEntries {H : Type} : List (Lit × DataW H) → Nat
  | [] => 0
  | x :: r => uptoBulkEntry x + uptoBulkEntries r
def uptoBulkEntry {H : Type} : Lit × DataW H → Nat
  | (.string bytes, d) => bytes.length + uptoBulk d + 1
  | (_, d) => uptoBulk d + 1
 end
def uptoSmall : (H : Type) → List (DataW H) → Bool := fun _ ds => decide (uptoBulkAll ds ≤ 1048576)
def OpenSpec.upto (s : _root_.Go.ChangeSpec) : _root_.Go.OpenSpec := { _root_.Go.OpenSpec.ofChange s with cond := some uptoSmall }

/-- 'laws.FnExactCountModulo', WHERE WHAT IT READS IS OF BULK AT MOST 1048576: true; the input reads as it did. -/
def fnExactCountModuloUptoRow : OpenClaim := { program := "ytnpmkomnafdgnaa", sum := "9b3fefa84f3a4f1e430a9356ddb90b103a2e9723346ef9f81efe4ff87af8743f", func := "loop.example/g01066/laws.FnExactCountModulo", spec := "fnExactCountModulo", apart := false, narrowed := true }
def FnExactCountModuloUptoSaid : Prop := fnExactCountModuloUptoRow.holds Try.pinned (OpenSpec.upto fnExactCountModuloSpec)

/-- 'laws.FnExactPrincipalResidues', WHERE WHAT IT READS IS OF BULK AT MOST 1048576: true; the input reads as it did. -/
def fnExactPrincipalResiduesUptoRow : OpenClaim := { program := "ytnpmkomnafdgnaa", sum := "9b3fefa84f3a4f1e430a9356ddb90b103a2e9723346ef9f81efe4ff87af8743f", func := "loop.example/g01066/laws.FnExactPrincipalResidues", spec := "fnExactPrincipalResidues", apart := false, narrowed := true }
def FnExactPrincipalResiduesUptoSaid : Prop := fnExactPrincipalResiduesUptoRow.holds Try.pinned (OpenSpec.upto fnExactPrincipalResiduesSpec)

/-- 'laws.FnExactIsNormalTriple', WHERE WHAT IT READS IS OF BULK AT MOST 1048576: true; the input reads as it did. -/
def fnExactIsNormalTripleUptoRow : OpenClaim := { program := "ytnpmkomnafdgnaa", sum := "9b3fefa84f3a4f1e430a9356ddb90b103a2e9723346ef9f81efe4ff87af8743f", func := "loop.example/g01066/laws.FnExactIsNormalTriple", spec := "fnExactIsNormalTriple", apart := false, narrowed := true }
def FnExactIsNormalTripleUptoSaid : Prop := fnExactIsNormalTripleUptoRow.holds Try.pinned (OpenSpec.upto fnExactIsNormalTripleSpec)

/-- 'laws.FnExactCornacchiaSteps', WHERE WHAT IT READS IS OF BULK AT MOST 1048576: true; the input reads as it did. -/
def fnExactCornacchiaStepsUptoRow : OpenClaim := { program := "ytnpmkomnafdgnaa", sum := "9b3fefa84f3a4f1e430a9356ddb90b103a2e9723346ef9f81efe4ff87af8743f", func := "loop.example/g01066/laws.FnExactCornacchiaSteps", spec := "fnExactCornacchiaSteps", apart := false, narrowed := true }
def FnExactCornacchiaStepsUptoSaid : Prop := fnExactCornacchiaStepsUptoRow.holds Try.pinned (OpenSpec.upto fnExactCornacchiaStepsSpec)

/-- 'laws.FnExactSolutionModulo', WHERE WHAT IT READS IS OF BULK AT MOST 1048576: true; the input reads as it did. -/
def fnExactSolutionModuloUptoRow : OpenClaim := { program := "ytnpmkomnafdgnaa", sum := "9b3fefa84f3a4f1e430a9356ddb90b103a2e9723346ef9f81efe4ff87af8743f", func := "loop.example/g01066/laws.FnExactSolutionModulo", spec := "fnExactSolutionModulo", apart := false, narrowed := true }
def FnExactSolutionModuloUptoSaid : Prop := fnExactSolutionModuloUptoRow.holds Try.pinned (OpenSpec.upto fnExactSolutionModuloSpec)

/-- 'laws.FnExactCornacchia', WHERE WHAT IT READS IS OF BULK AT MOST 1048576: true; the input reads as it did. -/
def fnExactCornacchiaUptoRow : OpenClaim := { program := "ytnpmkomnafdgnaa", sum := "9b3fefa84f3a4f1e430a9356ddb90b103a2e9723346ef9f81efe4ff87af8743f", func := "loop.example/g01066/laws.FnExactCornacchia", spec := "fnExactCornacchia", apart := false, narrowed := true }
def FnExactCornacchiaUptoSaid : Prop := fnExactCornacchiaUptoRow.holds Try.pinned (OpenSpec.upto fnExactCornacchiaSpec)

/-- 'laws.FnExactHurwitzNumber', WHERE WHAT IT READS IS OF BULK AT MOST 1048576: true; the input reads as it did. -/
def fnExactHurwitzNumberUptoRow : OpenClaim := { program := "ytnpmkomnafdgnaa", sum := "9b3fefa84f3a4f1e430a9356ddb90b103a2e9723346ef9f81efe4ff87af8743f", func := "loop.example/g01066/laws.FnExactHurwitzNumber", spec := "fnExactHurwitzNumber", apart := false, narrowed := true }
def FnExactHurwitzNumberUptoSaid : Prop := fnExactHurwitzNumberUptoRow.holds Try.pinned (OpenSpec.upto fnExactHurwitzNumberSpec)

/-- 'laws.FnExactClassNumber', WHERE WHAT IT READS IS OF BULK AT MOST 1048576: true; the input reads as it did. -/
def fnExactClassNumberUptoRow : OpenClaim := { program := "ytnpmkomnafdgnaa", sum := "9b3fefa84f3a4f1e430a9356ddb90b103a2e9723346ef9f81efe4ff87af8743f", func := "loop.example/g01066/laws.FnExactClassNumber", spec := "fnExactClassNumber", apart := false, narrowed := true }
def FnExactClassNumberUptoSaid : Prop := fnExactClassNumberUptoRow.holds Try.pinned (OpenSpec.upto fnExactClassNumberSpec)

/-- 'laws.FnExactAllReducedForms', WHERE WHAT IT READS IS OF BULK AT MOST 1048576: true; the input reads as it did. -/
def fnExactAllReducedFormsUptoRow : OpenClaim := { program := "ytnpmkomnafdgnaa", sum := "9b3fefa84f3a4f1e430a9356ddb90b103a2e9723346ef9f81efe4ff87af8743f", func := "loop.example/g01066/laws.FnExactAllReducedForms", spec := "fnExactAllReducedForms", apart := false, narrowed := true }
def FnExactAllReducedFormsUptoSaid : Prop := fnExactAllReducedFormsUptoRow.holds Try.pinned (OpenSpec.upto fnExactAllReducedFormsSpec)

/-- 'laws.FnExactPrimeForm', WHERE WHAT IT READS IS OF BULK AT MOST 1048576: true; the input reads as it did. -/
def fnExactPrimeFormUptoRow : OpenClaim := { program := "ytnpmkomnafdgnaa", sum := "9b3fefa84f3a4f1e430a9356ddb90b103a2e9723346ef9f81efe4ff87af8743f", func := "loop.example/g01066/laws.FnExactPrimeForm", spec := "fnExactPrimeForm", apart := false, narrowed := true }
def FnExactPrimeFormUptoSaid : Prop := fnExactPrimeFormUptoRow.holds Try.pinned (OpenSpec.upto fnExactPrimeFormSpec)

/-- 'laws.FnExactLegendreRoots', WHERE WHAT IT READS IS OF BULK AT MOST 1048576: true; the input reads as it did. -/
def fnExactLegendreRootsUptoRow : OpenClaim := { program := "ytnpmkomnafdgnaa", sum := "9b3fefa84f3a4f1e430a9356ddb90b103a2e9723346ef9f81efe4ff87af8743f", func := "loop.example/g01066/laws.FnExactLegendreRoots", spec := "fnExactLegendreRoots", apart := false, narrowed := true }
def FnExactLegendreRootsUptoSaid : Prop := fnExactLegendreRootsUptoRow.holds Try.pinned (OpenSpec.upto fnExactLegendreRootsSpec)

/-- 'laws.FnExactReducingStep', WHERE WHAT IT READS IS OF BULK AT MOST 1048576: true; the input reads as it did. -/
def fnExactReducingStepUptoRow : OpenClaim := { program := "ytnpmkomnafdgnaa", sum := "9b3fefa84f3a4f1e430a9356ddb90b103a2e9723346ef9f81efe4ff87af8743f", func := "loop.example/g01066/laws.FnExactReducingStep", spec := "fnExactReducingStep", apart := false, narrowed := true }
def FnExactReducingStepUptoSaid : Prop := fnExactReducingStepUptoRow.holds Try.pinned (OpenSpec.upto fnExactReducingStepSpec)

end Rows
end Go.Proofs.Ytnpmkomnafdgnaa
