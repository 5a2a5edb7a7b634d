/-
  No cell of these rows narrows 'for every input' (looked for: loops, veiled, ifaces, maps, wideKeys, modest, calm, conditions, laid).
  DERIVED. THE GIVEN ROWS OF THIS SEAT. 10 by the template 'for every input the law returns true; each argument reads behind the call as it read before'; 0 by the template 'total and deterministic' (their statements: YtfmkcdggdikmdaaTotals.lean).
  GIVEN WITH THE SEED: the statements are not yours to turn. If you find one false, say at which input.
  Laid BY PROGRAM, IN A SANDBOX (cutbox-rows.mjs): the forced cells as the released guide's own fill.sh prints them over the translation e4c0e869250d7261… (all of the seat's roots in one cut). By AI agents, Wed Nov 11 2026. No macro, syntax, notation, axiom, sorry.
-/
import Derived.Test.YtfmkcdggdikmdaaChecked
import GoSem.Claim
import GoSem.ClaimJoined
import GoSem.ClaimMapViews
import Derived.JoinedTies
import Derived.KernelRfl
namespace Go.Proofs.Ytfmkcdggdikmdaa
/- THE CELL 'sum', in the pinned program and in every row, IS THE sha256 OF THE DUMP (.gsa) THAT YtfmkcdggdikmdaaProg.lean LOADS. Nothing in Lean hashes anything: it is a label: what it is worth is what the hold of that sum in a sandbox is worth. -/
noncomputable def Try.pinned : Pinned := { name := "ytfmkcdggdikmdaa", sum := "e4c0e869250d7261d5e468bd634a5e7b72aebd256d8f5956d08fb78f8dde3012", checked := Try.checked }
namespace Rows
def none {H : Type} : Left H := { results := [], args := [] }

/-- 'laws.FnExactLocalClasses': WHATEVER THE INPUT: true; the input reads as it did. -/
def fnExactLocalClassesSpec : ChangeSpec := { name := "fnExactLocalClasses", fn := fun _ => fun
  | [d] => { results := [.lit (.bool true)], args := [d] }
  | _ => none }
def fnExactLocalClassesRow : OpenClaim := { program := "ytfmkcdggdikmdaa", sum := "e4c0e869250d7261d5e468bd634a5e7b72aebd256d8f5956d08fb78f8dde3012", func := "loop.example/g01066/laws.FnExactLocalClasses", spec := "fnExactLocalClasses", apart := false }
def FnExactLocalClassesSaid : Prop := fnExactLocalClassesRow.holds Try.pinned (OpenSpec.ofChange fnExactLocalClassesSpec)

/-- ITS FALSE NEIGHBOUR: 'it returns false'. Refute it at one input. -/
def fnExactLocalClassesWrong : ChangeSpec := { name := "fnExactLocalClasses", fn := fun _ => fun
  | [d] => { results := [.lit (.bool false)], args := [d] }
  | _ => none }
def FnExactLocalClassesWrongFalsely : Prop := fnExactLocalClassesRow.holds Try.pinned (OpenSpec.ofChange fnExactLocalClassesWrong)

/-- 'laws.FnExactHilbertSymbol': WHATEVER THE INPUT: true; the input reads as it did. -/
def fnExactHilbertSymbolSpec : ChangeSpec := { name := "fnExactHilbertSymbol", fn := fun _ => fun
  | [d1, d2, d3] => { results := [.lit (.bool true)], args := [d1, d2, d3] }
  | _ => none }
def fnExactHilbertSymbolRow : OpenClaim := { program := "ytfmkcdggdikmdaa", sum := "e4c0e869250d7261d5e468bd634a5e7b72aebd256d8f5956d08fb78f8dde3012", func := "loop.example/g01066/laws.FnExactHilbertSymbol", spec := "fnExactHilbertSymbol", apart := false }
def FnExactHilbertSymbolSaid : Prop := fnExactHilbertSymbolRow.holds Try.pinned (OpenSpec.ofChange fnExactHilbertSymbolSpec)

/-- ITS FALSE NEIGHBOUR: 'it returns false'. Refute it at one input. -/
def fnExactHilbertSymbolWrong : ChangeSpec := { name := "fnExactHilbertSymbol", fn := fun _ => fun
  | [d1, d2, d3] => { results := [.lit (.bool false)], args := [d1, d2, d3] }
  | _ => none }
def FnExactHilbertSymbolWrongFalsely : Prop := fnExactHilbertSymbolRow.holds Try.pinned (OpenSpec.ofChange fnExactHilbertSymbolWrong)

/-- 'laws.FnExactIsLocalSquare': WHATEVER THE INPUT: true; the input reads as it did. -/
def fnExactIsLocalSquareSpec : ChangeSpec := { name := "fnExactIsLocalSquare", fn := fun _ => fun
  | [d1, d2] => { results := [.lit (.bool true)], args := [d1, d2] }
  | _ => none }
def fnExactIsLocalSquareRow : OpenClaim := { program := "ytfmkcdggdikmdaa", sum := "e4c0e869250d7261d5e468bd634a5e7b72aebd256d8f5956d08fb78f8dde3012", func := "loop.example/g01066/laws.FnExactIsLocalSquare", spec := "fnExactIsLocalSquare", apart := false }
def FnExactIsLocalSquareSaid : Prop := fnExactIsLocalSquareRow.holds Try.pinned (OpenSpec.ofChange fnExactIsLocalSquareSpec)

/-- ITS FALSE NEIGHBOUR: 'it returns false'. Refute it at one input. -/
def fnExactIsLocalSquareWrong : ChangeSpec := { name := "fnExactIsLocalSquare", fn := fun _ => fun
  | [d1, d2] => { results := [.lit (.bool false)], args := [d1, d2] }
  | _ => none }
def FnExactIsLocalSquareWrongFalsely : Prop := fnExactIsLocalSquareRow.holds Try.pinned (OpenSpec.ofChange fnExactIsLocalSquareWrong)

/-- 'laws.FnExactLocalClassOf': WHATEVER THE INPUT: true; the input reads as it did. -/
def fnExactLocalClassOfSpec : ChangeSpec := { name := "fnExactLocalClassOf", fn := fun _ => fun
  | [d1, d2] => { results := [.lit (.bool true)], args := [d1, d2] }
  | _ => none }
def fnExactLocalClassOfRow : OpenClaim := { program := "ytfmkcdggdikmdaa", sum := "e4c0e869250d7261d5e468bd634a5e7b72aebd256d8f5956d08fb78f8dde3012", func := "loop.example/g01066/laws.FnExactLocalClassOf", spec := "fnExactLocalClassOf", apart := false }
def FnExactLocalClassOfSaid : Prop := fnExactLocalClassOfRow.holds Try.pinned (OpenSpec.ofChange fnExactLocalClassOfSpec)

/-- ITS FALSE NEIGHBOUR: 'it returns false'. Refute it at one input. -/
def fnExactLocalClassOfWrong : ChangeSpec := { name := "fnExactLocalClassOf", fn := fun _ => fun
  | [d1, d2] => { results := [.lit (.bool false)], args := [d1, d2] }
  | _ => none }
def FnExactLocalClassOfWrongFalsely : Prop := fnExactLocalClassOfRow.holds Try.pinned (OpenSpec.ofChange fnExactLocalClassOfWrong)

/-- 'laws.FnExactHasseInvariant': WHATEVER THE INPUT: true; the input reads as it did. -/
def fnExactHasseInvariantSpec : ChangeSpec := { name := "fnExactHasseInvariant", fn := fun _ => fun
  | [d1, d2] => { results := [.lit (.bool true)], args := [d1, d2] }
  | _ => none }
def fnExactHasseInvariantRow : OpenClaim := { program := "ytfmkcdggdikmdaa", sum := "e4c0e869250d7261d5e468bd634a5e7b72aebd256d8f5956d08fb78f8dde3012", func := "loop.example/g01066/laws.FnExactHasseInvariant", spec := "fnExactHasseInvariant", apart := false }
def FnExactHasseInvariantSaid : Prop := fnExactHasseInvariantRow.holds Try.pinned (OpenSpec.ofChange fnExactHasseInvariantSpec)

/-- ITS FALSE NEIGHBOUR: 'it returns false'. Refute it at one input. -/
def fnExactHasseInvariantWrong : ChangeSpec := { name := "fnExactHasseInvariant", fn := fun _ => fun
  | [d1, d2] => { results := [.lit (.bool false)], args := [d1, d2] }
  | _ => none }
def FnExactHasseInvariantWrongFalsely : Prop := fnExactHasseInvariantRow.holds Try.pinned (OpenSpec.ofChange fnExactHasseInvariantWrong)

/-- 'laws.FnExactSymbolTable': WHATEVER THE INPUT: true; the input reads as it did. -/
def fnExactSymbolTableSpec : ChangeSpec := { name := "fnExactSymbolTable", fn := fun _ => fun
  | [d] => { results := [.lit (.bool true)], args := [d] }
  | _ => none }
def fnExactSymbolTableRow : OpenClaim := { program := "ytfmkcdggdikmdaa", sum := "e4c0e869250d7261d5e468bd634a5e7b72aebd256d8f5956d08fb78f8dde3012", func := "loop.example/g01066/laws.FnExactSymbolTable", spec := "fnExactSymbolTable", apart := false }
def FnExactSymbolTableSaid : Prop := fnExactSymbolTableRow.holds Try.pinned (OpenSpec.ofChange fnExactSymbolTableSpec)

/-- ITS FALSE NEIGHBOUR: 'it returns false'. Refute it at one input. -/
def fnExactSymbolTableWrong : ChangeSpec := { name := "fnExactSymbolTable", fn := fun _ => fun
  | [d] => { results := [.lit (.bool false)], args := [d] }
  | _ => none }
def FnExactSymbolTableWrongFalsely : Prop := fnExactSymbolTableRow.holds Try.pinned (OpenSpec.ofChange fnExactSymbolTableWrong)

/-- 'laws.FnExactIsIsotropic': WHATEVER THE INPUT: true; the input reads as it did. -/
def fnExactIsIsotropicSpec : ChangeSpec := { name := "fnExactIsIsotropic", fn := fun _ => fun
  | [d1, d2] => { results := [.lit (.bool true)], args := [d1, d2] }
  | _ => none }
def fnExactIsIsotropicRow : OpenClaim := { program := "ytfmkcdggdikmdaa", sum := "e4c0e869250d7261d5e468bd634a5e7b72aebd256d8f5956d08fb78f8dde3012", func := "loop.example/g01066/laws.FnExactIsIsotropic", spec := "fnExactIsIsotropic", apart := false }
def FnExactIsIsotropicSaid : Prop := fnExactIsIsotropicRow.holds Try.pinned (OpenSpec.ofChange fnExactIsIsotropicSpec)

/-- ITS FALSE NEIGHBOUR: 'it returns false'. Refute it at one input. -/
def fnExactIsIsotropicWrong : ChangeSpec := { name := "fnExactIsIsotropic", fn := fun _ => fun
  | [d1, d2] => { results := [.lit (.bool false)], args := [d1, d2] }
  | _ => none }
def FnExactIsIsotropicWrongFalsely : Prop := fnExactIsIsotropicRow.holds Try.pinned (OpenSpec.ofChange fnExactIsIsotropicWrong)

/-- 'laws.FnExactAnisotropicPlaces': WHATEVER THE INPUT: true; the input reads as it did. -/
def fnExactAnisotropicPlacesSpec : ChangeSpec := { name := "fnExactAnisotropicPlaces", fn := fun _ => fun
  | [d] => { results := [.lit (.bool true)], args := [d] }
  | _ => none }
def fnExactAnisotropicPlacesRow : OpenClaim := { program := "ytfmkcdggdikmdaa", sum := "e4c0e869250d7261d5e468bd634a5e7b72aebd256d8f5956d08fb78f8dde3012", func := "loop.example/g01066/laws.FnExactAnisotropicPlaces", spec := "fnExactAnisotropicPlaces", unfollowed := true, recurses := true, apart := false }
def FnExactAnisotropicPlacesSaid : Prop := fnExactAnisotropicPlacesRow.holds Try.pinned (OpenSpec.ofChange fnExactAnisotropicPlacesSpec)

/-- ITS FALSE NEIGHBOUR: 'it returns false'. Refute it at one input. -/
def fnExactAnisotropicPlacesWrong : ChangeSpec := { name := "fnExactAnisotropicPlaces", fn := fun _ => fun
  | [d] => { results := [.lit (.bool false)], args := [d] }
  | _ => none }
def FnExactAnisotropicPlacesWrongFalsely : Prop := fnExactAnisotropicPlacesRow.holds Try.pinned (OpenSpec.ofChange fnExactAnisotropicPlacesWrong)

/-- 'laws.FnExactSymbolPlaces': WHATEVER THE INPUT: true; the input reads as it did. -/
def fnExactSymbolPlacesSpec : ChangeSpec := { name := "fnExactSymbolPlaces", fn := fun _ => fun
  | [d1, d2] => { results := [.lit (.bool true)], args := [d1, d2] }
  | _ => none }
def fnExactSymbolPlacesRow : OpenClaim := { program := "ytfmkcdggdikmdaa", sum := "e4c0e869250d7261d5e468bd634a5e7b72aebd256d8f5956d08fb78f8dde3012", func := "loop.example/g01066/laws.FnExactSymbolPlaces", spec := "fnExactSymbolPlaces", unfollowed := true, recurses := true, apart := false }
def FnExactSymbolPlacesSaid : Prop := fnExactSymbolPlacesRow.holds Try.pinned (OpenSpec.ofChange fnExactSymbolPlacesSpec)

/-- ITS FALSE NEIGHBOUR: 'it returns false'. Refute it at one input. -/
def fnExactSymbolPlacesWrong : ChangeSpec := { name := "fnExactSymbolPlaces", fn := fun _ => fun
  | [d1, d2] => { results := [.lit (.bool false)], args := [d1, d2] }
  | _ => none }
def FnExactSymbolPlacesWrongFalsely : Prop := fnExactSymbolPlacesRow.holds Try.pinned (OpenSpec.ofChange fnExactSymbolPlacesWrong)

/-- 'laws.FnExactAreConjugate': WHATEVER THE INPUT: true; the input reads as it did. -/
def fnExactAreConjugateSpec : ChangeSpec := { name := "fnExactAreConjugate", fn := fun _ => fun
  | [d1, d2] => { results := [.lit (.bool true)], args := [d1, d2] }
  | _ => none }
def fnExactAreConjugateRow : OpenClaim := { program := "ytfmkcdggdikmdaa", sum := "e4c0e869250d7261d5e468bd634a5e7b72aebd256d8f5956d08fb78f8dde3012", func := "loop.example/g01066/laws.FnExactAreConjugate", spec := "fnExactAreConjugate", apart := false }
def FnExactAreConjugateSaid : Prop := fnExactAreConjugateRow.holds Try.pinned (OpenSpec.ofChange fnExactAreConjugateSpec)

/-- ITS FALSE NEIGHBOUR: 'it returns false'. Refute it at one input. -/
def fnExactAreConjugateWrong : ChangeSpec := { name := "fnExactAreConjugate", fn := fun _ => fun
  | [d1, d2] => { results := [.lit (.bool false)], args := [d1, d2] }
  | _ => none }
def FnExactAreConjugateWrongFalsely : Prop := fnExactAreConjugateRow.holds Try.pinned (OpenSpec.ofChange fnExactAreConjugateWrong)

/- THE SECOND FORM. 'bulk': how many values and letters a reading holds, each counted each time it is reached (what is shared counts as often as it is met; a slice's spare places count too). A statement '..UptoSaid' is the law's where the arguments, and the package variables that the reading takes, are together of bulk at most 1048576: NARROWER than '..Said'. Prove '..Said' where nothing that the law and all that it calls make is longer than what came in: it says more and counts as full. Else prove '..UptoSaid'. A law counts once. -/
mutual
def uptoBulk {H : Type} : DataW H → Nat
  | .lit (.string bytes) => bytes.length + 1
  | .lit _ => 1
  | .nil => 1
  | .ptr d => uptoBulk d + 1
  | .slice elems spare => uptoBulkAll elems + uptoBulkAll spare + 1
  | .agg parts => uptoBulkAll parts + 1
  | .iface _ d => uptoBulk d + 1
  | .map entries => uptoBulkEntries entries + 1
  | .held _ => 1
def uptoBulkAll {H : Type} : List (DataW H) → Nat
  | [] => 0
  | d :: r => uptoBulk d + uptoBulkAll r
def uptoBulkEntries {H : Type} : List (Lit × DataW H) → Nat
  | [] => 0
  | x :: r => uptoBulkEntry x + uptoBulkEntries r
def uptoBulkEntry {H : Type} : Lit × DataW H → Nat
  | (.string bytes, d) => bytes.length + uptoBulk d + 1
  | (_, d) => uptoBulk d + 1
 end
def uptoSmall : (H : Type) → List (DataW H) → Bool := fun _ ds => decide (uptoBulkAll ds ≤ 1048576)
def OpenSpec.upto (s : _root_.Go.ChangeSpec) : _root_.Go.OpenSpec := { _root_.Go.OpenSpec.ofChange s with cond := some uptoSmall }

/-- 'laws.FnExactLocalClasses', WHERE WHAT IT READS IS OF BULK AT MOST 1048576: true; the input reads as it did. -/
def fnExactLocalClassesUptoRow : OpenClaim := { program := "ytfmkcdggdikmdaa", sum := "e4c0e869250d7261d5e468bd634a5e7b72aebd256d8f5956d08fb78f8dde3012", func := "loop.example/g01066/laws.FnExactLocalClasses", spec := "fnExactLocalClasses", apart := false, narrowed := true }
def FnExactLocalClassesUptoSaid : Prop := fnExactLocalClassesUptoRow.holds Try.pinned (OpenSpec.upto fnExactLocalClassesSpec)

/-- 'laws.FnExactHilbertSymbol', WHERE WHAT IT READS IS OF BULK AT MOST 1048576: true; the input reads as it did. -/
def fnExactHilbertSymbolUptoRow : OpenClaim := { program := "ytfmkcdggdikmdaa", sum := "e4c0e869250d7261d5e468bd634a5e7b72aebd256d8f5956d08fb78f8dde3012", func := "loop.example/g01066/laws.FnExactHilbertSymbol", spec := "fnExactHilbertSymbol", apart := false, narrowed := true }
def FnExactHilbertSymbolUptoSaid : Prop := fnExactHilbertSymbolUptoRow.holds Try.pinned (OpenSpec.upto fnExactHilbertSymbolSpec)

/-- 'laws.FnExactIsLocalSquare', WHERE WHAT IT READS IS OF BULK AT MOST 1048576: true; the input reads as it did. -/
def fnExactIsLocalSquareUptoRow : OpenClaim := { program := "ytfmkcdggdikmdaa", sum := "e4c0e869250d7261d5e468bd634a5e7b72aebd256d8f5956d08fb78f8dde3012", func := "loop.example/g01066/laws.FnExactIsLocalSquare", spec := "fnExactIsLocalSquare", apart := false, narrowed := true }
def FnExactIsLocalSquareUptoSaid : Prop := fnExactIsLocalSquareUptoRow.holds Try.pinned (OpenSpec.upto fnExactIsLocalSquareSpec)

/-- 'laws.FnExactLocalClassOf', WHERE WHAT IT READS IS OF BULK AT MOST 1048576: true; the input reads as it did. -/
def fnExactLocalClassOfUptoRow : OpenClaim := { program := "ytfmkcdggdikmdaa", sum := "e4c0e869250d7261d5e468bd634a5e7b72aebd256d8f5956d08fb78f8dde3012", func := "loop.example/g01066/laws.FnExactLocalClassOf", spec := "fnExactLocalClassOf", apart := false, narrowed := true }
def FnExactLocalClassOfUptoSaid : Prop := fnExactLocalClassOfUptoRow.holds Try.pinned (OpenSpec.upto fnExactLocalClassOfSpec)

/-- 'laws.FnExactHasseInvariant', WHERE WHAT IT READS IS OF BULK AT MOST 1048576: true; the input reads as it did. -/
def fnExactHasseInvariantUptoRow : OpenClaim := { program := "ytfmkcdggdikmdaa", sum := "e4c0e869250d7261d5e468bd634a5e7b72aebd256d8f5956d08fb78f8dde3012", func := "loop.example/g01066/laws.FnExactHasseInvariant", spec := "fnExactHasseInvariant", apart := false, narrowed := true }
def FnExactHasseInvariantUptoSaid : Prop := fnExactHasseInvariantUptoRow.holds Try.pinned (OpenSpec.upto fnExactHasseInvariantSpec)

/-- 'laws.FnExactSymbolTable', WHERE WHAT IT READS IS OF BULK AT MOST 1048576: true; the input reads as it did. -/
def fnExactSymbolTableUptoRow : OpenClaim := { program := "ytfmkcdggdikmdaa", sum := "e4c0e869250d7261d5e468bd634a5e7b72aebd256d8f5956d08fb78f8dde3012", func := "loop.example/g01066/laws.FnExactSymbolTable", spec := "fnExactSymbolTable", apart := false, narrowed := true }
def FnExactSymbolTableUptoSaid : Prop := fnExactSymbolTableUptoRow.holds Try.pinned (OpenSpec.upto fnExactSymbolTableSpec)

/-- 'laws.FnExactIsIsotropic', WHERE WHAT IT READS IS OF BULK AT MOST 1048576: true; the input reads as it did. -/
def fnExactIsIsotropicUptoRow : OpenClaim := { program := "ytfmkcdggdikmdaa", sum := "e4c0e869250d7261d5e468bd634a5e7b72aebd256d8f5956d08fb78f8dde3012", func := "loop.example/g01066/laws.FnExactIsIsotropic", spec := "fnExactIsIsotropic", apart := false, narrowed := true }
def FnExactIsIsotropicUptoSaid : Prop := fnExactIsIsotropicUptoRow.holds Try.pinned (OpenSpec.upto fnExactIsIsotropicSpec)

/-- 'laws.FnExactAnisotropicPlaces', WHERE WHAT IT READS IS OF BULK AT MOST 1048576: true; the input reads as it did. -/
def fnExactAnisotropicPlacesUptoRow : OpenClaim := { program := "ytfmkcdggdikmdaa", sum := "e4c0e869250d7261d5e468bd634a5e7b72aebd256d8f5956d08fb78f8dde3012", func := "loop.example/g01066/laws.FnExactAnisotropicPlaces", spec := "fnExactAnisotropicPlaces", unfollowed := true, recurses := true, apart := false, narrowed := true }
def FnExactAnisotropicPlacesUptoSaid : Prop := fnExactAnisotropicPlacesUptoRow.holds Try.pinned (OpenSpec.upto fnExactAnisotropicPlacesSpec)

/-- 'laws.FnExactSymbolPlaces', WHERE WHAT IT READS IS OF BULK AT MOST 1048576: true; the input reads as it did. -/
def fnExactSymbolPlacesUptoRow : OpenClaim := { program := "ytfmkcdggdikmdaa", sum := "e4c0e869250d7261d5e468bd634a5e7b72aebd256d8f5956d08fb78f8dde3012", func := "loop.example/g01066/laws.FnExactSymbolPlaces", spec := "fnExactSymbolPlaces", unfollowed := true, recurses := true, apart := false, narrowed := true }
def FnExactSymbolPlacesUptoSaid : Prop := fnExactSymbolPlacesUptoRow.holds Try.pinned (OpenSpec.upto fnExactSymbolPlacesSpec)

/-- 'laws.FnExactAreConjugate', WHERE WHAT IT READS IS OF BULK AT MOST 1048576: true; the input reads as it did. -/
def fnExactAreConjugateUptoRow : OpenClaim := { program := "ytfmkcdggdikmdaa", sum := "e4c0e869250d7261d5e468bd634a5e7b72aebd256d8f5956d08fb78f8dde3012", func := "loop.example/g01066/laws.FnExactAreConjugate", spec := "fnExactAreConjugate", apart := false, narrowed := true }
def FnExactAreConjugateUptoSaid : Prop := fnExactAreConjugateUptoRow.holds Try.pinned (OpenSpec.upto fnExactAreConjugateSpec)

end Rows
end Go.Proofs.Ytfmkcdggdikmdaa
