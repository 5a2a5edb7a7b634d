/- PrimeForm. -/
import Derived.Test.YtnlabjnjcfapiaaF8
namespace Go.Proofs.Ytnlabjnjcfapiaa
set_option linter.unusedSimpArgs false
set_option linter.unusedVariables false
open Go.RowKit
set_option maxRecDepth 100000


/-- b is a middle coefficient for p. -/
def okB (d p b : Int) : Prop := (b * b - d) % (4 * p) = 0
noncomputable def exB (d p : Int) : Bool := @decide (∃ b, 0 ≤ b ∧ b ≤ p ∧ okB d p b) (Classical.propDecidable _)
noncomputable def fstB (d p : Int) : Int := Classical.epsilon fun b => 0 ≤ b ∧ okB d p b ∧ ∀ b', 0 ≤ b' → b' < b → ¬ okB d p b'
theorem fstB_eq {d p b : Int} (h0 : 0 ≤ b) (h1 : okB d p b) (h2 : ∀ b', 0 ≤ b' → b' < b → ¬ okB d p b') : fstB d p = b := by
  have h := Classical.epsilon_spec (p := fun b => 0 ≤ b ∧ okB d p b ∧ ∀ b', 0 ≤ b' → b' < b → ¬ okB d p b') ⟨b, h0, h1, h2⟩
  change 0 ≤ fstB d p ∧ okB d p (fstB d p) ∧ ∀ b', 0 ≤ b' → b' < fstB d p → ¬ okB d p b' at h
  obtain ⟨k0, k1, k2⟩ := h
  rcases Int.lt_trichotomy (fstB d p) b with hl | hl | hl
  · exact absurd k1 (h2 _ k0 hl)
  · exact hl
  · exact absurd h1 (k2 _ h0 hl)
/-- What the search yields: the form, and is it primitive. -/
noncomputable def pfF (d p : Int) : Int × Int × Int := if exB d p then (p, fstB d p, (fstB d p * fstB d p - d) / (4 * p)) else (0, 0, 0)
noncomputable def pfB (d p : Int) : Bool := exB d p && decide ((Int.gcd (Int.gcd p (fstB d p)) ((fstB d p * fstB d p - d) / (4 * p)) : Int) = 1)


noncomputable def pG (d p : Int) : Bool := decide (-2000 ≤ d) && decide (d ≤ -3) && decide (d % 4 < 2) && shp p && pfB d p
noncomputable def pF (d p : Int) : Int × Int × Int := if pG d p then pfF d p else (0, 0, 0)

end Go.Proofs.Ytnlabjnjcfapiaa
