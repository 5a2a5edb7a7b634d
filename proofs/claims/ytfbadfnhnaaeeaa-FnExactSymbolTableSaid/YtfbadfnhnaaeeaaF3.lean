/- CountModulo. -/
import Derived.Test.YtfbadfnhnaaeeaaF2
namespace Go.Proofs.Ytfbadfnhnaaeeaa
set_option linter.unusedSimpArgs false
set_option linter.unusedVariables false
open Go.RowKit
set_option maxRecDepth 100000

/-! counting -/
theorem ediv_le' {i p : Int} (h : 0 ≤ i) (hp : 0 < p) : 0 ≤ i / p ∧ i / p ≤ i := ⟨Int.ediv_nonneg h (by omega), Int.ediv_le_self _ h⟩
def cnt (f : Int → Bool) : Nat → Nat
  | 0 => 0
  | n + 1 => cnt f n + if f n then 1 else 0
theorem cnt_le (f : Int → Bool) : ∀ n, cnt f n ≤ n
  | 0 => Nat.le_refl 0
  | n + 1 => by have := cnt_le f n; simp only [cnt]; split <;> omega
/-- The value of the ternary form, as the machine takes it. -/
def cv (a b c x y z : Int) : Int := wrap64 (wrap64 (wrap64 (wrap64 (a * x) * x) + wrap64 (wrap64 (b * y) * y)) + wrap64 (wrap64 (c * z) * z))
def cvz (a b c p i : Int) : Bool := (cv a b c (i.tdiv p |>.tdiv p) ((i.tdiv p).tmod p) (i.tmod p)).tmod p == 0

theorem dig {q z p : Int} (hq : 0 ≤ q) (hz : 0 ≤ z) (hp : z < p) : (q * p + z).tdiv p = q ∧ (q * p + z).tmod p = z := by
  have h0 : 0 ≤ q * p + z := by have := Int.mul_nonneg hq (show 0 ≤ p by omega); omega
  rw [tdiv_nonneg' h0, tmod_nonneg' h0, Int.add_comm, Int.add_mul_ediv_right _ _ (by omega), Int.ediv_eq_zero_of_lt hz hp, Int.add_mul_emod_self_right, Int.emod_eq_of_lt hz hp]
  omega
theorem cvz_dig {a b c p x y z : Int} (hx : 0 ≤ x) (hy : 0 ≤ y) (hyp : y < p) (hz : 0 ≤ z) (hzp : z < p) : cvz a b c p ((x * p + y) * p + z) = ((cv a b c x y z).tmod p == 0) := by
  have h1 := dig (q := x * p + y) (by have := Int.mul_nonneg hx (show 0 ≤ p by omega); omega) hz hzp
  have h2 := dig hx hy hyp
  simp only [cvz, h1.1, h1.2, h2.1, h2.2]

end Go.Proofs.Ytfbadfnhnaaeeaa
