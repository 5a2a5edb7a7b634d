/-
  No cell of these rows narrows 'for every input' (looked for: loops, veiled, ifaces, maps, wideKeys, modest, calm, conditions, laid).
  DERIVED. THE GIVEN ROWS OF THIS SEAT. 6 by the template 'for every input the law returns true; each argument reads behind the call as it read before'; 0 by the template 'total and deterministic' (their statements: YtindcbcafmgfdaaTotals.lean).
  GIVEN WITH THE SEED: the statements are not yours to turn. If you find one false, say at which input.
  Laid BY PROGRAM, IN A SANDBOX (cutbox-rows.mjs): the forced cells as the released guide's own fill.sh prints them over the translation 7eb5a503b4449315… (all of the seat's roots in one cut). By AI agents, Wed Nov 11 2026. No macro, syntax, notation, axiom, sorry.
-/
import Derived.Test.YtindcbcafmgfdaaChecked
import GoSem.Claim
import GoSem.ClaimJoined
import GoSem.ClaimMapViews
import Derived.JoinedTies
import Derived.KernelRfl
namespace Go.Proofs.Ytindcbcafmgfdaa
/- THE CELL 'sum', in the pinned program and in every row, IS THE sha256 OF THE DUMP (.gsa) THAT YtindcbcafmgfdaaProg.lean LOADS. Nothing in Lean hashes anything: it is a label: what it is worth is what the hold of that sum in a sandbox is worth. -/
noncomputable def Try.pinned : Pinned := { name := "ytindcbcafmgfdaa", sum := "7eb5a503b4449315a4e861ce728f17f52baa526d5bea3fdf6d916a14881099cf", checked := Try.checked }
namespace Rows
def none {H : Type} : Left H := { results := [], args := [] }

/-- 'laws.FnExactIsTriple': WHATEVER THE INPUT: true; the input reads as it did. -/
def fnExactIsTripleSpec : ChangeSpec := { name := "fnExactIsTriple", fn := fun _ => fun
  | [d] => { results := [.lit (.bool true)], args := [d] }
  | _ => none }
def fnExactIsTripleRow : OpenClaim := { program := "ytindcbcafmgfdaa", sum := "7eb5a503b4449315a4e861ce728f17f52baa526d5bea3fdf6d916a14881099cf", func := "loop.example/g01066/laws.FnExactIsTriple", spec := "fnExactIsTriple", apart := false }
def FnExactIsTripleSaid : Prop := fnExactIsTripleRow.holds Try.pinned (OpenSpec.ofChange fnExactIsTripleSpec)

/-- ITS FALSE NEIGHBOUR: 'it returns false'. Refute it at one input. -/
def fnExactIsTripleWrong : ChangeSpec := { name := "fnExactIsTriple", fn := fun _ => fun
  | [d] => { results := [.lit (.bool false)], args := [d] }
  | _ => none }
def FnExactIsTripleWrongFalsely : Prop := fnExactIsTripleRow.holds Try.pinned (OpenSpec.ofChange fnExactIsTripleWrong)

/-- 'laws.FnExactIsPlace': WHATEVER THE INPUT: true; the input reads as it did. -/
def fnExactIsPlaceSpec : ChangeSpec := { name := "fnExactIsPlace", fn := fun _ => fun
  | [d] => { results := [.lit (.bool true)], args := [d] }
  | _ => none }
def fnExactIsPlaceRow : OpenClaim := { program := "ytindcbcafmgfdaa", sum := "7eb5a503b4449315a4e861ce728f17f52baa526d5bea3fdf6d916a14881099cf", func := "loop.example/g01066/laws.FnExactIsPlace", spec := "fnExactIsPlace", apart := false }
def FnExactIsPlaceSaid : Prop := fnExactIsPlaceRow.holds Try.pinned (OpenSpec.ofChange fnExactIsPlaceSpec)

/-- ITS FALSE NEIGHBOUR: 'it returns false'. Refute it at one input. -/
def fnExactIsPlaceWrong : ChangeSpec := { name := "fnExactIsPlace", fn := fun _ => fun
  | [d] => { results := [.lit (.bool false)], args := [d] }
  | _ => none }
def FnExactIsPlaceWrongFalsely : Prop := fnExactIsPlaceRow.holds Try.pinned (OpenSpec.ofChange fnExactIsPlaceWrong)

/-- 'laws.FnExactIsReducedForm': WHATEVER THE INPUT: true; the input reads as it did. -/
def fnExactIsReducedFormSpec : ChangeSpec := { name := "fnExactIsReducedForm", fn := fun _ => fun
  | [d] => { results := [.lit (.bool true)], args := [d] }
  | _ => none }
def fnExactIsReducedFormRow : OpenClaim := { program := "ytindcbcafmgfdaa", sum := "7eb5a503b4449315a4e861ce728f17f52baa526d5bea3fdf6d916a14881099cf", func := "loop.example/g01066/laws.FnExactIsReducedForm", spec := "fnExactIsReducedForm", apart := false }
def FnExactIsReducedFormSaid : Prop := fnExactIsReducedFormRow.holds Try.pinned (OpenSpec.ofChange fnExactIsReducedFormSpec)

/-- ITS FALSE NEIGHBOUR: 'it returns false'. Refute it at one input. -/
def fnExactIsReducedFormWrong : ChangeSpec := { name := "fnExactIsReducedForm", fn := fun _ => fun
  | [d] => { results := [.lit (.bool false)], args := [d] }
  | _ => none }
def FnExactIsReducedFormWrongFalsely : Prop := fnExactIsReducedFormRow.holds Try.pinned (OpenSpec.ofChange fnExactIsReducedFormWrong)

/-- 'laws.FnExactFixedForm': WHATEVER THE INPUT: true; the input reads as it did. -/
def fnExactFixedFormSpec : ChangeSpec := { name := "fnExactFixedForm", fn := fun _ => fun
  | [d] => { results := [.lit (.bool true)], args := [d] }
  | _ => none }
def fnExactFixedFormRow : OpenClaim := { program := "ytindcbcafmgfdaa", sum := "7eb5a503b4449315a4e861ce728f17f52baa526d5bea3fdf6d916a14881099cf", func := "loop.example/g01066/laws.FnExactFixedForm", spec := "fnExactFixedForm", apart := false }
def FnExactFixedFormSaid : Prop := fnExactFixedFormRow.holds Try.pinned (OpenSpec.ofChange fnExactFixedFormSpec)

/-- ITS FALSE NEIGHBOUR: 'it returns false'. Refute it at one input. -/
def fnExactFixedFormWrong : ChangeSpec := { name := "fnExactFixedForm", fn := fun _ => fun
  | [d] => { results := [.lit (.bool false)], args := [d] }
  | _ => none }
def FnExactFixedFormWrongFalsely : Prop := fnExactFixedFormRow.holds Try.pinned (OpenSpec.ofChange fnExactFixedFormWrong)

/-- 'laws.FnExactIsSolution': WHATEVER THE INPUT: true; the input reads as it did. -/
def fnExactIsSolutionSpec : ChangeSpec := { name := "fnExactIsSolution", fn := fun _ => fun
  | [d1, d2] => { results := [.lit (.bool true)], args := [d1, d2] }
  | _ => none }
def fnExactIsSolutionRow : OpenClaim := { program := "ytindcbcafmgfdaa", sum := "7eb5a503b4449315a4e861ce728f17f52baa526d5bea3fdf6d916a14881099cf", func := "loop.example/g01066/laws.FnExactIsSolution", spec := "fnExactIsSolution", apart := false }
def FnExactIsSolutionSaid : Prop := fnExactIsSolutionRow.holds Try.pinned (OpenSpec.ofChange fnExactIsSolutionSpec)

/-- ITS FALSE NEIGHBOUR: 'it returns false'. Refute it at one input. -/
def fnExactIsSolutionWrong : ChangeSpec := { name := "fnExactIsSolution", fn := fun _ => fun
  | [d1, d2] => { results := [.lit (.bool false)], args := [d1, d2] }
  | _ => none }
def FnExactIsSolutionWrongFalsely : Prop := fnExactIsSolutionRow.holds Try.pinned (OpenSpec.ofChange fnExactIsSolutionWrong)

/-- 'laws.FnExactKindOfMatrix': WHATEVER THE INPUT: true; the input reads as it did. -/
def fnExactKindOfMatrixSpec : ChangeSpec := { name := "fnExactKindOfMatrix", fn := fun _ => fun
  | [d] => { results := [.lit (.bool true)], args := [d] }
  | _ => none }
def fnExactKindOfMatrixRow : OpenClaim := { program := "ytindcbcafmgfdaa", sum := "7eb5a503b4449315a4e861ce728f17f52baa526d5bea3fdf6d916a14881099cf", func := "loop.example/g01066/laws.FnExactKindOfMatrix", spec := "fnExactKindOfMatrix", apart := false }
def FnExactKindOfMatrixSaid : Prop := fnExactKindOfMatrixRow.holds Try.pinned (OpenSpec.ofChange fnExactKindOfMatrixSpec)

/-- ITS FALSE NEIGHBOUR: 'it returns false'. Refute it at one input. -/
def fnExactKindOfMatrixWrong : ChangeSpec := { name := "fnExactKindOfMatrix", fn := fun _ => fun
  | [d] => { results := [.lit (.bool false)], args := [d] }
  | _ => none }
def FnExactKindOfMatrixWrongFalsely : Prop := fnExactKindOfMatrixRow.holds Try.pinned (OpenSpec.ofChange fnExactKindOfMatrixWrong)

/- THE SECOND FORM. 'bulk': how many values and letters a reading holds, each counted each time it is reached (what is shared counts as often as it is met; a slice's spare places count too). A statement '..UptoSaid' is the law's where the arguments, and the package variables that the reading takes, are together of bulk at most 1048576: NARROWER than '..Said'. Prove '..Said' where nothing that the law and all that it calls make is longer than what came in: it says more and counts as full. Else prove '..UptoSaid'. A law counts once. -/
mutual
def uptoBulk {H : Type} : DataW H → Nat
  | .lit (.string bytes) => bytes.length + 1
  | .lit _ => 1
  | .nil => 1
  | .ptr d => uptoBulk d + 1
  | .slice elems spare => uptoBulkAll elems + uptoBulkAll spare + 1
  | .agg parts => uptoBulkAll parts + 1
  | .iface _ d => uptoBulk d + 1
  | .map entries => uptoBulkEntries entries + 1
  | .held _ => 1
def uptoBulkAll {H : Type} : List (DataW H) → Nat
  | [] => 0
  | d :: r => uptoBulk d + uptoBulkAll r
def uptoBulkEntries {H : Type} : List (Lit × DataW H) → Nat
  | [] => 0
  | x :: r => uptoBulkEntry x + uptoBulkEntries r
def uptoBulkEntry {H : Type} : Lit × DataW H → Nat
  | (.string bytes, d) => bytes.length + uptoBulk d + 1
  | (_, d) => uptoBulk d + 1
 end
def uptoSmall : (H : Type) → List (DataW H) → Bool := fun _ ds => decide (uptoBulkAll ds ≤ 1048576)
def OpenSpec.upto (s : _root_.Go.ChangeSpec) : _root_.Go.OpenSpec := { _root_.Go.OpenSpec.ofChange s with cond := some uptoSmall }

/-- 'laws.FnExactIsTriple', WHERE WHAT IT READS IS OF BULK AT MOST 1048576: true; the input reads as it did. -/
def fnExactIsTripleUptoRow : OpenClaim := { program := "ytindcbcafmgfdaa", sum := "7eb5a503b4449315a4e861ce728f17f52baa526d5bea3fdf6d916a14881099cf", func := "loop.example/g01066/laws.FnExactIsTriple", spec := "fnExactIsTriple", apart := false, narrowed := true }
def FnExactIsTripleUptoSaid : Prop := fnExactIsTripleUptoRow.holds Try.pinned (OpenSpec.upto fnExactIsTripleSpec)

/-- 'laws.FnExactIsPlace', WHERE WHAT IT READS IS OF BULK AT MOST 1048576: true; the input reads as it did. -/
def fnExactIsPlaceUptoRow : OpenClaim := { program := "ytindcbcafmgfdaa", sum := "7eb5a503b4449315a4e861ce728f17f52baa526d5bea3fdf6d916a14881099cf", func := "loop.example/g01066/laws.FnExactIsPlace", spec := "fnExactIsPlace", apart := false, narrowed := true }
def FnExactIsPlaceUptoSaid : Prop := fnExactIsPlaceUptoRow.holds Try.pinned (OpenSpec.upto fnExactIsPlaceSpec)

/-- 'laws.FnExactIsReducedForm', WHERE WHAT IT READS IS OF BULK AT MOST 1048576: true; the input reads as it did. -/
def fnExactIsReducedFormUptoRow : OpenClaim := { program := "ytindcbcafmgfdaa", sum := "7eb5a503b4449315a4e861ce728f17f52baa526d5bea3fdf6d916a14881099cf", func := "loop.example/g01066/laws.FnExactIsReducedForm", spec := "fnExactIsReducedForm", apart := false, narrowed := true }
def FnExactIsReducedFormUptoSaid : Prop := fnExactIsReducedFormUptoRow.holds Try.pinned (OpenSpec.upto fnExactIsReducedFormSpec)

/-- 'laws.FnExactFixedForm', WHERE WHAT IT READS IS OF BULK AT MOST 1048576: true; the input reads as it did. -/
def fnExactFixedFormUptoRow : OpenClaim := { program := "ytindcbcafmgfdaa", sum := "7eb5a503b4449315a4e861ce728f17f52baa526d5bea3fdf6d916a14881099cf", func := "loop.example/g01066/laws.FnExactFixedForm", spec := "fnExactFixedForm", apart := false, narrowed := true }
def FnExactFixedFormUptoSaid : Prop := fnExactFixedFormUptoRow.holds Try.pinned (OpenSpec.upto fnExactFixedFormSpec)

/-- 'laws.FnExactIsSolution', WHERE WHAT IT READS IS OF BULK AT MOST 1048576: true; the input reads as it did. -/
def fnExactIsSolutionUptoRow : OpenClaim := { program := "ytindcbcafmgfdaa", sum := "7eb5a503b4449315a4e861ce728f17f52baa526d5bea3fdf6d916a14881099cf", func := "loop.example/g01066/laws.FnExactIsSolution", spec := "fnExactIsSolution", apart := false, narrowed := true }
def FnExactIsSolutionUptoSaid : Prop := fnExactIsSolutionUptoRow.holds Try.pinned (OpenSpec.upto fnExactIsSolutionSpec)

/-- 'laws.FnExactKindOfMatrix', WHERE WHAT IT READS IS OF BULK AT MOST 1048576: true; the input reads as it did. -/
def fnExactKindOfMatrixUptoRow : OpenClaim := { program := "ytindcbcafmgfdaa", sum := "7eb5a503b4449315a4e861ce728f17f52baa526d5bea3fdf6d916a14881099cf", func := "loop.example/g01066/laws.FnExactKindOfMatrix", spec := "fnExactKindOfMatrix", apart := false, narrowed := true }
def FnExactKindOfMatrixUptoSaid : Prop := fnExactKindOfMatrixUptoRow.holds Try.pinned (OpenSpec.upto fnExactKindOfMatrixSpec)

end Rows
end Go.Proofs.Ytindcbcafmgfdaa
