/- Contracts: forms. -/
import Derived.Test.YtfcndlagnhaafaaF2
namespace Go.Proofs.Ytfcndlagnhaafaa
set_option linter.unusedSimpArgs false
set_option linter.unusedVariables false
open Go.RowKit
set_option maxRecDepth 100000

abbrev Fo (a b c : Int) : V := .agg [cI a, cI b, cI c]
abbrev Ma (p q r s : Int) : V := .agg [cI p, cI q, cI r, cI s]
/-- The machine's discriminant. -/
def dsc (a b c : Int) : Int := wrap64 (wrap64 (b * b) - wrap64 (wrap64 (4 * a) * c))

def dfn (a b c : Int) : Bool := num a && num b && num c && decide (dsc a b c < 0) && decide (0 < a)

/-- Reduced, for an a that is not the least integer. -/
def red (a b c : Int) : Bool := decide (-a < b) && decide (b ≤ a) && (decide (a < c) || (decide (a = c) && decide (0 ≤ b)))


end Go.Proofs.Ytfcndlagnhaafaa
