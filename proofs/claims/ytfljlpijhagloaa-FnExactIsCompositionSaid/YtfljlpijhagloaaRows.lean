/-
  No cell of these rows narrows 'for every input' (looked for: loops, veiled, ifaces, maps, wideKeys, modest, calm, conditions, laid).
  DERIVED. THE GIVEN ROWS OF THIS SEAT. 2 by the template 'for every input the law returns true; each argument reads behind the call as it read before'; 0 by the template 'total and deterministic' (their statements: YtfljlpijhagloaaTotals.lean).
  GIVEN WITH THE SEED: the statements are not yours to turn. If you find one false, say at which input.
  Laid BY PROGRAM, IN A SANDBOX (cutbox-rows.mjs): the forced cells as the released guide's own fill.sh prints them over the translation f8c87c8849b20aed… (all of the seat's roots in one cut). By AI agents, Wed Nov 11 2026. No macro, syntax, notation, axiom, sorry.
-/
import Derived.Test.YtfljlpijhagloaaChecked
import GoSem.Claim
import GoSem.ClaimJoined
import GoSem.ClaimMapViews
import Derived.JoinedTies
import Derived.KernelRfl
namespace Go.Proofs.Ytfljlpijhagloaa
/- THE CELL 'sum', in the pinned program and in every row, IS THE sha256 OF THE DUMP (.gsa) THAT YtfljlpijhagloaaProg.lean LOADS. Nothing in Lean hashes anything: it is a label: what it is worth is what the hold of that sum in a sandbox is worth. -/
noncomputable def Try.pinned : Pinned := { name := "ytfljlpijhagloaa", sum := "f8c87c8849b20aed70e2790906ea946b09e071857c78a0e14aa9de2f8b5d8a2c", checked := Try.checked }
namespace Rows
def none {H : Type} : Left H := { results := [], args := [] }

/-- 'laws.FnExactRiverForm': WHATEVER THE INPUT: true; the input reads as it did. -/
def fnExactRiverFormSpec : ChangeSpec := { name := "fnExactRiverForm", fn := fun _ => fun
  | [d] => { results := [.lit (.bool true)], args := [d] }
  | _ => none }
def fnExactRiverFormRow : OpenClaim := { program := "ytfljlpijhagloaa", sum := "f8c87c8849b20aed70e2790906ea946b09e071857c78a0e14aa9de2f8b5d8a2c", func := "loop.example/g01066/laws.FnExactRiverForm", spec := "fnExactRiverForm", unfollowed := true, recurses := true, apart := false }
def FnExactRiverFormSaid : Prop := fnExactRiverFormRow.holds Try.pinned (OpenSpec.ofChange fnExactRiverFormSpec)

/-- ITS FALSE NEIGHBOUR: 'it returns false'. Refute it at one input. -/
def fnExactRiverFormWrong : ChangeSpec := { name := "fnExactRiverForm", fn := fun _ => fun
  | [d] => { results := [.lit (.bool false)], args := [d] }
  | _ => none }
def FnExactRiverFormWrongFalsely : Prop := fnExactRiverFormRow.holds Try.pinned (OpenSpec.ofChange fnExactRiverFormWrong)

/-- 'laws.FnExactIsComposition': WHATEVER THE INPUT: true; the input reads as it did. -/
def fnExactIsCompositionSpec : ChangeSpec := { name := "fnExactIsComposition", fn := fun _ => fun
  | [d1, d2, d3, d4] => { results := [.lit (.bool true)], args := [d1, d2, d3, d4] }
  | _ => none }
def fnExactIsCompositionRow : OpenClaim := { program := "ytfljlpijhagloaa", sum := "f8c87c8849b20aed70e2790906ea946b09e071857c78a0e14aa9de2f8b5d8a2c", func := "loop.example/g01066/laws.FnExactIsComposition", spec := "fnExactIsComposition", apart := false }
def FnExactIsCompositionSaid : Prop := fnExactIsCompositionRow.holds Try.pinned (OpenSpec.ofChange fnExactIsCompositionSpec)

/-- ITS FALSE NEIGHBOUR: 'it returns false'. Refute it at one input. -/
def fnExactIsCompositionWrong : ChangeSpec := { name := "fnExactIsComposition", fn := fun _ => fun
  | [d1, d2, d3, d4] => { results := [.lit (.bool false)], args := [d1, d2, d3, d4] }
  | _ => none }
def FnExactIsCompositionWrongFalsely : Prop := fnExactIsCompositionRow.holds Try.pinned (OpenSpec.ofChange fnExactIsCompositionWrong)

/- THE SECOND FORM. 'bulk': how many values and letters a reading holds, each counted each time it is reached (what is shared counts as often as it is met; a slice's spare places count too). A statement '..UptoSaid' is the law's where the arguments, and the package variables that the reading takes, are together of bulk at most 1048576: NARROWER than '..Said'. Prove '..Said' where nothing that the law and all that it calls make is longer than what came in: it says more and counts as full. Else prove '..UptoSaid'. A law counts once. -/
mutual
def uptoBulk {H : Type} : DataW H → Nat
  | .lit (.string bytes) => bytes.length + 1
  | .lit _ => 1
  | .nil => 1
  | .ptr d => uptoBulk d + 1
  | .slice elems spare => uptoBulkAll elems + uptoBulkAll spare + 1
  | .agg parts => uptoBulkAll parts + 1
  | .iface _ d => uptoBulk d + 1
  | .map entries => uptoBulkEntries entries + 1
  | .held _ => 1
def uptoBulkAll {H : Type} : List (DataW H) → Nat
  | [] => 0
  | d :: r => uptoBulk d + uptoBulkAll r
def uptoBulkEntries {H : Type} : List (Lit × DataW H) → Nat
  | [] => 0
  | x :: r => uptoBulkEntry x + uptoBulkEntries r
def uptoBulkEntry {H : Type} : Lit × DataW H → Nat
  | (.string bytes, d) => bytes.length + uptoBulk d + 1
  | (_, d) => uptoBulk d + 1
 end
def uptoSmall : (H : Type) → List (DataW H) → Bool := fun _ ds => decide (uptoBulkAll ds ≤ 1048576)
def OpenSpec.upto (s : _root_.Go.ChangeSpec) : _root_.Go.OpenSpec := { _root_.Go.OpenSpec.ofChange s with cond := some uptoSmall }

/-- 'laws.FnExactRiverForm', WHERE WHAT IT READS IS OF BULK AT MOST 1048576: true; the input reads as it did. -/
def fnExactRiverFormUptoRow : OpenClaim := { program := "ytfljlpijhagloaa", sum := "f8c87c8849b20aed70e2790906ea946b09e071857c78a0e14aa9de2f8b5d8a2c", func := "loop.example/g01066/laws.FnExactRiverForm", spec := "fnExactRiverForm", unfollowed := true, recurses := true, apart := false, narrowed := true }
def FnExactRiverFormUptoSaid : Prop := fnExactRiverFormUptoRow.holds Try.pinned (OpenSpec.upto fnExactRiverFormSpec)

/-- 'laws.FnExactIsComposition', WHERE WHAT IT READS IS OF BULK AT MOST 1048576: true; the input reads as it did. -/
def fnExactIsCompositionUptoRow : OpenClaim := { program := "ytfljlpijhagloaa", sum := "f8c87c8849b20aed70e2790906ea946b09e071857c78a0e14aa9de2f8b5d8a2c", func := "loop.example/g01066/laws.FnExactIsComposition", spec := "fnExactIsComposition", apart := false, narrowed := true }
def FnExactIsCompositionUptoSaid : Prop := fnExactIsCompositionUptoRow.holds Try.pinned (OpenSpec.upto fnExactIsCompositionSpec)

end Rows
end Go.Proofs.Ytfljlpijhagloaa
