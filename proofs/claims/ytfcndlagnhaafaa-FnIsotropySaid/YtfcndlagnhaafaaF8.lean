/- ReducingStep. -/
import Derived.Test.YtfcndlagnhaafaaF4
namespace Go.Proofs.Ytfcndlagnhaafaa
set_option linter.unusedSimpArgs false
set_option linter.unusedVariables false
open Go.RowKit
set_option maxRecDepth 100000

/-- The machine's value of a form, its polar form. -/
def fv (a b c x y : Int) : Int := wrap64 (wrap64 (wrap64 (wrap64 (a * x) * x) + wrap64 (wrap64 (b * x) * y)) + wrap64 (wrap64 (c * y) * y))
def po (a b c x y u v : Int) : Int := wrap64 (wrap64 (wrap64 (wrap64 (wrap64 (2 * a) * x) * u) + wrap64 (b * wrap64 (wrap64 (x * v) + wrap64 (y * u)))) + wrap64 (wrap64 (wrap64 (2 * c) * y) * v))


/-- Division that rounds down, as the machine takes it. -/
theorem floor_div {n m : Int} (h1 : -4000000 ≤ n) (h2 : n ≤ 4000000) (h3 : 1 ≤ m) (h4 : m ≤ 4000000) : wrap64 ((wrap64 (n - n % m)).tdiv m) = n / m := by
  have e1 := Int.mul_ediv_add_emod n m
  have e2 := Int.emod_nonneg n (show m ≠ 0 by omega)
  have e3 := Int.emod_lt_of_pos n (show 0 < m by omega)
  rw [wrap_small (n := n - n % m) (by omega) (by omega), show n - n % m = m * (n / m) by omega, Int.mul_tdiv_cancel_left _ (show m ≠ 0 by omega)]
  have e4 : (n / m).natAbs ≤ n.natAbs := by
    by_cases h : 0 ≤ n
    · have := Int.ediv_nonneg h (show 0 ≤ m by omega)
      have := Int.ediv_le_self m h
      omega
    · have k1 : n / m < 0 := Int.ediv_neg_of_neg_of_pos (by omega) (by omega)
      have k2 : n ≤ n / m := by
        rw [Int.le_ediv_iff_mul_le (by omega)]
        have := Int.mul_le_mul_of_nonpos_left (show n ≤ 0 by omega) (show 1 ≤ m from h3)
        omega
      omega
  exact wrap_small (by omega) (by omega)

/-- The reducing step. -/
def stp (a b c : Int) : Int × Int × Int × Int := if ¬ (a - b) / (2 * a) = 0 then (1, (a - b) / (2 * a), 0, 1) else if red a b c = true then (1, 0, 0, 1) else (0, -1, 1, 0)
theorem norm_iff {a b : Int} (h1 : 1 ≤ a) : ((a - b) / (2 * a) = 0) ↔ (-a < b ∧ b ≤ a) := by
  have e1 := Int.mul_ediv_add_emod (a - b) (2 * a)
  have e2 := Int.emod_nonneg (a - b) (show 2 * a ≠ 0 by omega)
  have e3 := Int.emod_lt_of_pos (a - b) (show 0 < 2 * a by omega)
  constructor
  · intro h; rw [h] at e1; omega
  · intro h; exact Int.ediv_eq_zero_of_lt (by omega) (by omega)
theorem red_norm {a b c : Int} (h : red a b c = true) : -a < b ∧ b ≤ a := by
  simp [red] at h; omega

abbrev P3 (l m : List C) (b : Bool) : V := .tup [(true, l), (true, m), (false, [cB b])]
/-- What ReducingStep yields: the form, the matrix. -/
def rsF (a b c : Int) : Int × Int × Int := if dfn a b c then (fv a b c (stp a b c).1 (stp a b c).2.2.1, po a b c (stp a b c).1 (stp a b c).2.2.1 (stp a b c).2.1 (stp a b c).2.2.2, fv a b c (stp a b c).2.1 (stp a b c).2.2.2) else (0, 0, 0)
def rsM (a b c : Int) : Int × Int × Int × Int := if dfn a b c then stp a b c else (0, 0, 0, 0)

end Go.Proofs.Ytfcndlagnhaafaa
