/- ReducingStep. -/
import Derived.Test.YtnpmkomnafdgnaaF4
namespace Go.Proofs.Ytnpmkomnafdgnaa
set_option linter.unusedSimpArgs false
set_option linter.unusedVariables false
open Go.RowKit
set_option maxRecDepth 100000

/-- The machine's value of a form, its polar form. -/
def fv (a b c x y : Int) : Int := wrap64 (wrap64 (wrap64 (wrap64 (a * x) * x) + wrap64 (wrap64 (b * x) * y)) + wrap64 (wrap64 (c * y) * y))
def po (a b c x y u v : Int) : Int := wrap64 (wrap64 (wrap64 (wrap64 (wrap64 (2 * a) * x) * u) + wrap64 (b * wrap64 (wrap64 (x * v) + wrap64 (y * u)))) + wrap64 (wrap64 (wrap64 (2 * c) * y) * v))

theorem spec_foValue (a b c x y : Int) : AFun Try.prog 110 [] [Fo a b c, I x, I y] (I (fv a b c x y)) [] [] := by
  refine afun_intro fn110 [] rfl (by simp) rfl trivial ?_
  unfold ac110
  repeat' (first | ((with_reducible refine (?_ : (_ : Bool) = _)); (with_reducible rfl)) | (with_reducible refine leafRI ?_) | (with_reducible refine leafRB ?_) | (with_reducible refine leafI ?_) | (with_reducible refine leafB ?_) | ((with_reducible refine (?_ : (_ : Int) ≠ 0)); (first | assumption | omega | (simp only [ints_len] at *; omega) | (simp; omega))) | ((with_reducible refine (?_ : (_ : Int) ≤ _)); (first | assumption | omega | (simp only [ints_len] at *; omega) | (simp; omega))) | ((with_reducible refine (?_ : (_ : Int) < _)); (first | assumption | omega | (simp only [ints_len] at *; omega) | (simp; omega))) | ((with_reducible refine (?_ : (_ : Nat) = _)); (first | (with_reducible rfl) | (simp; done) | (simp only [fr_len]) | (simp only [ints_len]) | omega)) | (refine And.intro ?_ ?_) | (intro h; first | (exact Bool.noConfusion h) | ((simp only [decide_eq_true_eq, decide_eq_false_iff_not, beq_iff_eq, bne_iff_ne, ne_eq, beq_eq_false_iff_ne, bne_eq_false_iff_eq, Bool.not_eq_true', Bool.not_eq_false', Bool.not_eq_true, Bool.not_eq_false, Int.not_le, Int.not_lt, Bool.and_eq_true, Bool.or_eq_true, Bool.or_eq_false_iff, Bool.and_eq_false_iff] at h); (try (exact Bool.noConfusion h))) | skip) | ((with_reducible refine (?_ : chk _ _ = true)); kernel_rfl) | exact trivial)
  all_goals rfl

theorem impl_at (a b c x y : Int) : AFun Try.prog 117 [] [Fo a b c, I x, I y] (I (fv a b c x y)) [] [] := by
  refine afun_intro fn117 [] rfl (by simp) rfl trivial ?_
  unfold ac117
  repeat' (first | ((with_reducible refine (?_ : (_ : Bool) = _)); (with_reducible rfl)) | (with_reducible refine leafRI ?_) | (with_reducible refine leafRB ?_) | (with_reducible refine leafI ?_) | (with_reducible refine leafB ?_) | ((with_reducible refine (?_ : (_ : Int) ≠ 0)); (first | assumption | omega | (simp only [ints_len] at *; omega) | (simp; omega))) | ((with_reducible refine (?_ : (_ : Int) ≤ _)); (first | assumption | omega | (simp only [ints_len] at *; omega) | (simp; omega))) | ((with_reducible refine (?_ : (_ : Int) < _)); (first | assumption | omega | (simp only [ints_len] at *; omega) | (simp; omega))) | ((with_reducible refine (?_ : (_ : Nat) = _)); (first | (with_reducible rfl) | (simp; done) | (simp only [fr_len]) | (simp only [ints_len]) | omega)) | (refine And.intro ?_ ?_) | (intro h; first | (exact Bool.noConfusion h) | ((simp only [decide_eq_true_eq, decide_eq_false_iff_not, beq_iff_eq, bne_iff_ne, ne_eq, beq_eq_false_iff_ne, bne_eq_false_iff_eq, Bool.not_eq_true', Bool.not_eq_false', Bool.not_eq_true, Bool.not_eq_false, Int.not_le, Int.not_lt, Bool.and_eq_true, Bool.or_eq_true, Bool.or_eq_false_iff, Bool.and_eq_false_iff] at h); (try (exact Bool.noConfusion h))) | skip) | ((with_reducible refine (?_ : chk _ _ = true)); kernel_rfl) | exact trivial)
  all_goals rfl


theorem spec_foPolar (a b c x y u v : Int) : AFun Try.prog 111 [] [Fo a b c, I x, I y, I u, I v] (I (po a b c x y u v)) [] [] := by
  refine afun_intro fn111 [] rfl (by simp) rfl trivial ?_
  unfold ac111
  repeat' (first | ((with_reducible refine (?_ : (_ : Bool) = _)); (with_reducible rfl)) | (with_reducible refine leafRI ?_) | (with_reducible refine leafRB ?_) | (with_reducible refine leafI ?_) | (with_reducible refine leafB ?_) | ((with_reducible refine (?_ : (_ : Int) ≠ 0)); (first | assumption | omega | (simp only [ints_len] at *; omega) | (simp; omega))) | ((with_reducible refine (?_ : (_ : Int) ≤ _)); (first | assumption | omega | (simp only [ints_len] at *; omega) | (simp; omega))) | ((with_reducible refine (?_ : (_ : Int) < _)); (first | assumption | omega | (simp only [ints_len] at *; omega) | (simp; omega))) | ((with_reducible refine (?_ : (_ : Nat) = _)); (first | (with_reducible rfl) | (simp; done) | (simp only [fr_len]) | (simp only [ints_len]) | omega)) | (refine And.intro ?_ ?_) | (intro h; first | (exact Bool.noConfusion h) | ((simp only [decide_eq_true_eq, decide_eq_false_iff_not, beq_iff_eq, bne_iff_ne, ne_eq, beq_eq_false_iff_ne, bne_eq_false_iff_eq, Bool.not_eq_true', Bool.not_eq_false', Bool.not_eq_true, Bool.not_eq_false, Int.not_le, Int.not_lt, Bool.and_eq_true, Bool.or_eq_true, Bool.or_eq_false_iff, Bool.and_eq_false_iff] at h); (try (exact Bool.noConfusion h))) | skip) | ((with_reducible refine (?_ : chk _ _ = true)); kernel_rfl) | exact trivial)
  all_goals rfl

theorem impl_polar (a b c x y u v : Int) : AFun Try.prog 118 [] [Fo a b c, I x, I y, I u, I v] (I (po a b c x y u v)) [] [] := by
  refine afun_intro fn118 [] rfl (by simp) rfl trivial ?_
  unfold ac118
  repeat' (first | ((with_reducible refine (?_ : (_ : Bool) = _)); (with_reducible rfl)) | (with_reducible refine leafRI ?_) | (with_reducible refine leafRB ?_) | (with_reducible refine leafI ?_) | (with_reducible refine leafB ?_) | ((with_reducible refine (?_ : (_ : Int) ≠ 0)); (first | assumption | omega | (simp only [ints_len] at *; omega) | (simp; omega))) | ((with_reducible refine (?_ : (_ : Int) ≤ _)); (first | assumption | omega | (simp only [ints_len] at *; omega) | (simp; omega))) | ((with_reducible refine (?_ : (_ : Int) < _)); (first | assumption | omega | (simp only [ints_len] at *; omega) | (simp; omega))) | ((with_reducible refine (?_ : (_ : Nat) = _)); (first | (with_reducible rfl) | (simp; done) | (simp only [fr_len]) | (simp only [ints_len]) | omega)) | (refine And.intro ?_ ?_) | (intro h; first | (exact Bool.noConfusion h) | ((simp only [decide_eq_true_eq, decide_eq_false_iff_not, beq_iff_eq, bne_iff_ne, ne_eq, beq_eq_false_iff_ne, bne_eq_false_iff_eq, Bool.not_eq_true', Bool.not_eq_false', Bool.not_eq_true, Bool.not_eq_false, Int.not_le, Int.not_lt, Bool.and_eq_true, Bool.or_eq_true, Bool.or_eq_false_iff, Bool.and_eq_false_iff] at h); (try (exact Bool.noConfusion h))) | skip) | ((with_reducible refine (?_ : chk _ _ = true)); kernel_rfl) | exact trivial)
  all_goals rfl


theorem spec_foAct (a b c p q r s : Int) : AFun Try.prog 84 [] [Fo a b c, Ma p q r s] (Fo (fv a b c p r) (po a b c p r q s) (fv a b c q s)) [] [] := by
  refine afun_intro fn84 [] rfl (by simp) rfl trivial ?_
  unfold ac84
  repeat' (first | ((with_reducible refine (?_ : (_ : Bool) = _)); (with_reducible rfl)) | (with_reducible refine leafRI ?_) | (with_reducible refine leafRB ?_) | (with_reducible refine leafI ?_) | (with_reducible refine leafB ?_) | ((with_reducible refine (?_ : (_ : Int) ≠ 0)); (first | assumption | omega | (simp only [ints_len] at *; omega) | (simp; omega))) | ((with_reducible refine (?_ : (_ : Int) ≤ _)); (first | assumption | omega | (simp only [ints_len] at *; omega) | (simp; omega))) | ((with_reducible refine (?_ : (_ : Int) < _)); (first | assumption | omega | (simp only [ints_len] at *; omega) | (simp; omega))) | ((with_reducible refine (?_ : (_ : Nat) = _)); (first | (with_reducible rfl) | (simp; done) | (simp only [fr_len]) | (simp only [ints_len]) | omega)) | (refine And.intro ?_ ?_) | (intro h; first | (exact Bool.noConfusion h) | ((simp only [decide_eq_true_eq, decide_eq_false_iff_not, beq_iff_eq, bne_iff_ne, ne_eq, beq_eq_false_iff_ne, bne_eq_false_iff_eq, Bool.not_eq_true', Bool.not_eq_false', Bool.not_eq_true, Bool.not_eq_false, Int.not_le, Int.not_lt, Bool.and_eq_true, Bool.or_eq_true, Bool.or_eq_false_iff, Bool.and_eq_false_iff] at h); (try (exact Bool.noConfusion h))) | skip) | ((refine (?_ : ACall _ _ _ _ _ _ _)); first | ((apply acall (spec_foValue _ _ _ _ _)); (focus (repeat (first | exact rfl | (refine And.intro ?_ ?_))))) | ((apply acall (spec_foPolar _ _ _ _ _ _ _)); (focus (repeat (first | exact rfl | (refine And.intro ?_ ?_)))))) | ((with_reducible refine (?_ : chk _ _ = true)); kernel_rfl) | exact trivial)
  all_goals rfl

theorem impl_substitute (a b c p q r s : Int) : AFun Try.prog 87 [] [Fo a b c, Ma p q r s] (Fo (fv a b c p r) (po a b c p r q s) (fv a b c q s)) [] [] := by
  refine afun_intro fn87 [] rfl (by simp) rfl trivial ?_
  unfold ac87
  repeat' (first | ((with_reducible refine (?_ : (_ : Bool) = _)); (with_reducible rfl)) | (with_reducible refine leafRI ?_) | (with_reducible refine leafRB ?_) | (with_reducible refine leafI ?_) | (with_reducible refine leafB ?_) | ((with_reducible refine (?_ : (_ : Int) ≠ 0)); (first | assumption | omega | (simp only [ints_len] at *; omega) | (simp; omega))) | ((with_reducible refine (?_ : (_ : Int) ≤ _)); (first | assumption | omega | (simp only [ints_len] at *; omega) | (simp; omega))) | ((with_reducible refine (?_ : (_ : Int) < _)); (first | assumption | omega | (simp only [ints_len] at *; omega) | (simp; omega))) | ((with_reducible refine (?_ : (_ : Nat) = _)); (first | (with_reducible rfl) | (simp; done) | (simp only [fr_len]) | (simp only [ints_len]) | omega)) | (refine And.intro ?_ ?_) | (intro h; first | (exact Bool.noConfusion h) | ((simp only [decide_eq_true_eq, decide_eq_false_iff_not, beq_iff_eq, bne_iff_ne, ne_eq, beq_eq_false_iff_ne, bne_eq_false_iff_eq, Bool.not_eq_true', Bool.not_eq_false', Bool.not_eq_true, Bool.not_eq_false, Int.not_le, Int.not_lt, Bool.and_eq_true, Bool.or_eq_true, Bool.or_eq_false_iff, Bool.and_eq_false_iff] at h); (try (exact Bool.noConfusion h))) | skip) | ((refine (?_ : ACall _ _ _ _ _ _ _)); first | ((apply acall (impl_at _ _ _ _ _)); (focus (repeat (first | exact rfl | (refine And.intro ?_ ?_))))) | ((apply acall (impl_polar _ _ _ _ _ _ _)); (focus (repeat (first | exact rfl | (refine And.intro ?_ ?_)))))) | ((with_reducible refine (?_ : chk _ _ = true)); kernel_rfl) | exact trivial)
  all_goals rfl


/-- Division that rounds down, as the machine takes it. -/
theorem floor_div {n m : Int} (h1 : -4000000 ≤ n) (h2 : n ≤ 4000000) (h3 : 1 ≤ m) (h4 : m ≤ 4000000) : wrap64 ((wrap64 (n - n % m)).tdiv m) = n / m := by
  have e1 := Int.mul_ediv_add_emod n m
  have e2 := Int.emod_nonneg n (show m ≠ 0 by omega)
  have e3 := Int.emod_lt_of_pos n (show 0 < m by omega)
  rw [wrap_small (n := n - n % m) (by omega) (by omega), show n - n % m = m * (n / m) by omega, Int.mul_tdiv_cancel_left _ (show m ≠ 0 by omega)]
  have e4 : (n / m).natAbs ≤ n.natAbs := by
    by_cases h : 0 ≤ n
    · have := Int.ediv_nonneg h (show 0 ≤ m by omega)
      have := Int.ediv_le_self m h
      omega
    · have k1 : n / m < 0 := Int.ediv_neg_of_neg_of_pos (by omega) (by omega)
      have k2 : n ≤ n / m := by
        rw [Int.le_ediv_iff_mul_le (by omega)]
        have := Int.mul_le_mul_of_nonpos_left (show n ≤ 0 by omega) (show 1 ≤ m from h3)
        omega
      omega
  exact wrap_small (by omega) (by omega)

theorem impl_floorDiv (n m : Int) (h1 : -4000000 ≤ n) (h2 : n ≤ 4000000) (h3 : 1 ≤ m) (h4 : m ≤ 4000000) : AFun Try.prog 116 [] [I n, I m] (I (n / m)) [] [] := by
  refine afun_intro fn116 [] rfl (by simp) rfl trivial ?_
  unfold ac116
  repeat' (first | ((with_reducible refine (?_ : (_ : Bool) = _)); (with_reducible rfl)) | (with_reducible refine leafRI ?_) | (with_reducible refine leafRB ?_) | (with_reducible refine leafI ?_) | (with_reducible refine leafB ?_) | ((with_reducible refine (?_ : (_ : Int) ≠ 0)); (first | assumption | omega | (simp only [ints_len] at *; omega) | (simp; omega))) | ((with_reducible refine (?_ : (_ : Int) ≤ _)); (first | assumption | omega | (simp only [ints_len] at *; omega) | (simp; omega))) | ((with_reducible refine (?_ : (_ : Int) < _)); (first | assumption | omega | (simp only [ints_len] at *; omega) | (simp; omega))) | ((with_reducible refine (?_ : (_ : Nat) = _)); (first | (with_reducible rfl) | (simp; done) | (simp only [fr_len]) | (simp only [ints_len]) | omega)) | (refine And.intro ?_ ?_) | (intro h; first | (exact Bool.noConfusion h) | ((simp only [decide_eq_true_eq, decide_eq_false_iff_not, beq_iff_eq, bne_iff_ne, ne_eq, beq_eq_false_iff_ne, bne_eq_false_iff_eq, Bool.not_eq_true', Bool.not_eq_false', Bool.not_eq_true, Bool.not_eq_false, Int.not_le, Int.not_lt, Bool.and_eq_true, Bool.or_eq_true, Bool.or_eq_false_iff, Bool.and_eq_false_iff] at h); (try (exact Bool.noConfusion h))) | skip) | ((refine (?_ : ACall _ _ _ _ _ _ _)); first | ((apply acall (impl_mod _ _ ?_ ?_)); (focus (repeat (first | exact rfl | (refine And.intro ?_ ?_)))))) | ((with_reducible refine (?_ : chk _ _ = true)); kernel_rfl) | exact trivial)
  all_goals exact floor_div h1 h2 h3 h4

theorem spec_reNormal (a b c : Int) (h1 : 1 ≤ a) (h2 : a ≤ 1000000) (h3 : -1000000 ≤ b) (h4 : b ≤ 1000000) : AFun Try.prog 109 [] [Fo a b c] (I ((a - b) / (2 * a))) [] [] := by
  have w1 : wrap64 (a - b) = a - b := wrap_small (by omega) (by omega)
  have w2 : wrap64 (2 * a) = 2 * a := wrap_small (by omega) (by omega)
  refine afun_intro fn109 [] rfl (by simp) rfl trivial ?_
  unfold ac109
  repeat' (first | ((with_reducible refine (?_ : (_ : Bool) = _)); (with_reducible rfl)) | (with_reducible refine leafRI ?_) | (with_reducible refine leafRB ?_) | (with_reducible refine leafI ?_) | (with_reducible refine leafB ?_) | ((with_reducible refine (?_ : (_ : Int) ≠ 0)); (first | assumption | omega | (simp only [ints_len] at *; omega) | (simp; omega))) | ((with_reducible refine (?_ : (_ : Int) ≤ _)); (first | assumption | omega | (simp only [ints_len] at *; omega) | (simp; omega))) | ((with_reducible refine (?_ : (_ : Int) < _)); (first | assumption | omega | (simp only [ints_len] at *; omega) | (simp; omega))) | ((with_reducible refine (?_ : (_ : Nat) = _)); (first | (with_reducible rfl) | (simp; done) | (simp only [fr_len]) | (simp only [ints_len]) | omega)) | (refine And.intro ?_ ?_) | (intro h; first | (exact Bool.noConfusion h) | ((simp only [decide_eq_true_eq, decide_eq_false_iff_not, beq_iff_eq, bne_iff_ne, ne_eq, beq_eq_false_iff_ne, bne_eq_false_iff_eq, Bool.not_eq_true', Bool.not_eq_false', Bool.not_eq_true, Bool.not_eq_false, Int.not_le, Int.not_lt, Bool.and_eq_true, Bool.or_eq_true, Bool.or_eq_false_iff, Bool.and_eq_false_iff] at h); (try (exact Bool.noConfusion h))) | skip) | ((refine (?_ : ACall _ _ _ _ _ _ _)); first | ((apply acall (spec_nuMod _ _ ?_ ?_)); (focus (repeat (first | exact rfl | (refine And.intro ?_ ?_)))))) | ((with_reducible refine (?_ : chk _ _ = true)); kernel_rfl) | exact trivial)
  all_goals (rw [w1, w2]; exact floor_div (by omega) (by omega) (by omega) (by omega))

/-- The reducing step. -/
def stp (a b c : Int) : Int × Int × Int × Int := if ¬ (a - b) / (2 * a) = 0 then (1, (a - b) / (2 * a), 0, 1) else if red a b c = true then (1, 0, 0, 1) else (0, -1, 1, 0)
theorem norm_iff {a b : Int} (h1 : 1 ≤ a) : ((a - b) / (2 * a) = 0) ↔ (-a < b ∧ b ≤ a) := by
  have e1 := Int.mul_ediv_add_emod (a - b) (2 * a)
  have e2 := Int.emod_nonneg (a - b) (show 2 * a ≠ 0 by omega)
  have e3 := Int.emod_lt_of_pos (a - b) (show 0 < 2 * a by omega)
  constructor
  · intro h; rw [h] at e1; omega
  · intro h; exact Int.ediv_eq_zero_of_lt (by omega) (by omega)
theorem red_norm {a b c : Int} (h : red a b c = true) : -a < b ∧ b ≤ a := by
  simp [red] at h; omega

theorem spec_reMove (a b c : Int) (h1 : 1 ≤ a) (h2 : a ≤ 1000000) (h3 : -1000000 ≤ b) (h4 : b ≤ 1000000) : AFun Try.prog 83 [] [Fo a b c] (Ma (stp a b c).1 (stp a b c).2.1 (stp a b c).2.2.1 (stp a b c).2.2.2) [] [] := by
  refine afun_intro fn83 [] rfl (by simp) rfl trivial ?_
  unfold ac83
  repeat' (first | ((with_reducible refine (?_ : (_ : Bool) = _)); (with_reducible rfl)) | (with_reducible refine leafRI ?_) | (with_reducible refine leafRB ?_) | (with_reducible refine leafI ?_) | (with_reducible refine leafB ?_) | ((with_reducible refine (?_ : (_ : Int) ≠ 0)); (first | assumption | omega | (simp only [ints_len] at *; omega) | (simp; omega))) | ((with_reducible refine (?_ : (_ : Int) ≤ _)); (first | assumption | omega | (simp only [ints_len] at *; omega) | (simp; omega))) | ((with_reducible refine (?_ : (_ : Int) < _)); (first | assumption | omega | (simp only [ints_len] at *; omega) | (simp; omega))) | ((with_reducible refine (?_ : (_ : Nat) = _)); (first | (with_reducible rfl) | (simp; done) | (simp only [fr_len]) | (simp only [ints_len]) | omega)) | (refine And.intro ?_ ?_) | (intro h; first | (exact Bool.noConfusion h) | ((simp only [decide_eq_true_eq, decide_eq_false_iff_not, beq_iff_eq, bne_iff_ne, ne_eq, beq_eq_false_iff_ne, bne_eq_false_iff_eq, Bool.not_eq_true', Bool.not_eq_false', Bool.not_eq_true, Bool.not_eq_false, Int.not_le, Int.not_lt, Bool.and_eq_true, Bool.or_eq_true, Bool.or_eq_false_iff, Bool.and_eq_false_iff] at h); (try (exact Bool.noConfusion h))) | skip) | ((refine (?_ : ACall _ _ _ _ _ _ _)); first | ((apply acall (spec_reNormal _ _ _ ?_ ?_ ?_ ?_)); (focus (repeat (first | exact rfl | (refine And.intro ?_ ?_))))) | ((apply acall (spec_reIs _ _ _ ?_ ?_)); (focus (repeat (first | exact rfl | (refine And.intro ?_ ?_)))))) | ((with_reducible refine (?_ : chk _ _ = true)); kernel_rfl) | exact trivial)
  all_goals simp_all [stp]

theorem impl_one : AFun Try.prog 114 [] [] (Ma 1 0 0 1) [] [] := by
  refine afun_intro fn114 [] rfl (by simp) rfl trivial ?_
  unfold ac114
  repeat' (first | ((with_reducible refine (?_ : (_ : Bool) = _)); (with_reducible rfl)) | (with_reducible refine leafRI ?_) | (with_reducible refine leafRB ?_) | (with_reducible refine leafI ?_) | (with_reducible refine leafB ?_) | ((with_reducible refine (?_ : (_ : Int) ≠ 0)); (first | assumption | omega | (simp only [ints_len] at *; omega) | (simp; omega))) | ((with_reducible refine (?_ : (_ : Int) ≤ _)); (first | assumption | omega | (simp only [ints_len] at *; omega) | (simp; omega))) | ((with_reducible refine (?_ : (_ : Int) < _)); (first | assumption | omega | (simp only [ints_len] at *; omega) | (simp; omega))) | ((with_reducible refine (?_ : (_ : Nat) = _)); (first | (with_reducible rfl) | (simp; done) | (simp only [fr_len]) | (simp only [ints_len]) | omega)) | (refine And.intro ?_ ?_) | (intro h; first | (exact Bool.noConfusion h) | ((simp only [decide_eq_true_eq, decide_eq_false_iff_not, beq_iff_eq, bne_iff_ne, ne_eq, beq_eq_false_iff_ne, bne_eq_false_iff_eq, Bool.not_eq_true', Bool.not_eq_false', Bool.not_eq_true, Bool.not_eq_false, Int.not_le, Int.not_lt, Bool.and_eq_true, Bool.or_eq_true, Bool.or_eq_false_iff, Bool.and_eq_false_iff] at h); (try (exact Bool.noConfusion h))) | skip) | ((with_reducible refine (?_ : chk _ _ = true)); kernel_rfl) | exact trivial)
  all_goals rfl

theorem impl_step (a b c : Int) (h1 : 1 ≤ a) (h2 : a ≤ 1000000) (h3 : -1000000 ≤ b) (h4 : b ≤ 1000000) : AFun Try.prog 86 [] [Fo a b c] (Ma (stp a b c).1 (stp a b c).2.1 (stp a b c).2.2.1 (stp a b c).2.2.2) [] [] := by
  have w1 : wrap64 (a - b) = a - b := wrap_small (by omega) (by omega)
  have w2 : wrap64 (2 * a) = 2 * a := wrap_small (by omega) (by omega)
  have hn := norm_iff (b := b) h1
  have hr : red a b c = true → -a < b ∧ b ≤ a := red_norm
  refine afun_intro fn86 [] rfl (by simp) rfl trivial ?_
  unfold ac86
  repeat' (first | ((with_reducible refine (?_ : (_ : Bool) = _)); (with_reducible rfl)) | (with_reducible refine leafRI ?_) | (with_reducible refine leafRB ?_) | (with_reducible refine leafI ?_) | (with_reducible refine leafB ?_) | ((with_reducible refine (?_ : (_ : Int) ≠ 0)); (first | assumption | omega | (simp only [ints_len] at *; omega) | (simp; omega))) | ((with_reducible refine (?_ : (_ : Int) ≤ _)); (first | assumption | omega | (simp only [ints_len] at *; omega) | (simp; omega))) | ((with_reducible refine (?_ : (_ : Int) < _)); (first | assumption | omega | (simp only [ints_len] at *; omega) | (simp; omega))) | ((with_reducible refine (?_ : (_ : Nat) = _)); (first | (with_reducible rfl) | (simp; done) | (simp only [fr_len]) | (simp only [ints_len]) | omega)) | (refine And.intro ?_ ?_) | (intro h; first | (exact Bool.noConfusion h) | ((simp only [decide_eq_true_eq, decide_eq_false_iff_not, beq_iff_eq, bne_iff_ne, ne_eq, beq_eq_false_iff_ne, bne_eq_false_iff_eq, Bool.not_eq_true', Bool.not_eq_false', Bool.not_eq_true, Bool.not_eq_false, Int.not_le, Int.not_lt, Bool.and_eq_true, Bool.or_eq_true, Bool.or_eq_false_iff, Bool.and_eq_false_iff] at h); (try (exact Bool.noConfusion h))) | skip) | ((refine (?_ : ACall _ _ _ _ _ _ _)); first | ((apply acall (impl_isReduced _ _ _ ?_ ?_)); (focus (repeat (first | exact rfl | (refine And.intro ?_ ?_))))) | ((apply acall (impl_isNormal _ _ _ ?_ ?_)); (focus (repeat (first | exact rfl | (refine And.intro ?_ ?_))))) | ((apply acall (impl_one)); (focus (repeat (first | exact rfl | (refine And.intro ?_ ?_))))) | ((apply acall (impl_floorDiv _ _ ?_ ?_ ?_ ?_)); (focus (repeat (first | exact rfl | (refine And.intro ?_ ?_)))))) | ((with_reducible refine (?_ : chk _ _ = true)); kernel_rfl) | exact trivial)
  all_goals ((try rw [w1, w2]); unfold stp; grind)

theorem laws_toForm (a b c : Int) : AFun Try.prog 46 [] [Fo a b c] (Fo a b c) [] [] := by
  refine afun_intro fn46 [] rfl (by simp) rfl trivial ?_
  unfold ac46
  repeat' (first | ((with_reducible refine (?_ : (_ : Bool) = _)); (with_reducible rfl)) | (with_reducible refine leafRI ?_) | (with_reducible refine leafRB ?_) | (with_reducible refine leafI ?_) | (with_reducible refine leafB ?_) | ((with_reducible refine (?_ : (_ : Int) ≠ 0)); (first | assumption | omega | (simp only [ints_len] at *; omega) | (simp; omega))) | ((with_reducible refine (?_ : (_ : Int) ≤ _)); (first | assumption | omega | (simp only [ints_len] at *; omega) | (simp; omega))) | ((with_reducible refine (?_ : (_ : Int) < _)); (first | assumption | omega | (simp only [ints_len] at *; omega) | (simp; omega))) | ((with_reducible refine (?_ : (_ : Nat) = _)); (first | (with_reducible rfl) | (simp; done) | (simp only [fr_len]) | (simp only [ints_len]) | omega)) | (refine And.intro ?_ ?_) | (intro h; first | (exact Bool.noConfusion h) | ((simp only [decide_eq_true_eq, decide_eq_false_iff_not, beq_iff_eq, bne_iff_ne, ne_eq, beq_eq_false_iff_ne, bne_eq_false_iff_eq, Bool.not_eq_true', Bool.not_eq_false', Bool.not_eq_true, Bool.not_eq_false, Int.not_le, Int.not_lt, Bool.and_eq_true, Bool.or_eq_true, Bool.or_eq_false_iff, Bool.and_eq_false_iff] at h); (try (exact Bool.noConfusion h))) | skip) | ((with_reducible refine (?_ : chk _ _ = true)); kernel_rfl) | exact trivial)
  all_goals rfl

theorem laws_eqForm (a b c d e f : Int) : AFun Try.prog 42 [] [Fo a b c, Fo d e f] (Bo (decide (a = d) && decide (b = e) && decide (c = f))) [] [] := by
  refine afun_intro fn42 [] rfl (by simp) rfl trivial ?_
  unfold ac42
  repeat' (first | ((with_reducible refine (?_ : (_ : Bool) = _)); (with_reducible rfl)) | (with_reducible refine leafRI ?_) | (with_reducible refine leafRB ?_) | (with_reducible refine leafI ?_) | (with_reducible refine leafB ?_) | ((with_reducible refine (?_ : (_ : Int) ≠ 0)); (first | assumption | omega | (simp only [ints_len] at *; omega) | (simp; omega))) | ((with_reducible refine (?_ : (_ : Int) ≤ _)); (first | assumption | omega | (simp only [ints_len] at *; omega) | (simp; omega))) | ((with_reducible refine (?_ : (_ : Int) < _)); (first | assumption | omega | (simp only [ints_len] at *; omega) | (simp; omega))) | ((with_reducible refine (?_ : (_ : Nat) = _)); (first | (with_reducible rfl) | (simp; done) | (simp only [fr_len]) | (simp only [ints_len]) | omega)) | (refine And.intro ?_ ?_) | (intro h; first | (exact Bool.noConfusion h) | ((simp only [decide_eq_true_eq, decide_eq_false_iff_not, beq_iff_eq, bne_iff_ne, ne_eq, beq_eq_false_iff_ne, bne_eq_false_iff_eq, Bool.not_eq_true', Bool.not_eq_false', Bool.not_eq_true, Bool.not_eq_false, Int.not_le, Int.not_lt, Bool.and_eq_true, Bool.or_eq_true, Bool.or_eq_false_iff, Bool.and_eq_false_iff] at h); (try (exact Bool.noConfusion h))) | skip) | ((with_reducible refine (?_ : chk _ _ = true)); kernel_rfl) | exact trivial)
  any_goals ((first | (with_reducible refine (?_ : (_ : Int) = _)) | (with_reducible refine (?_ : (_ : Bool) = _))); (focus (first | rfl | grind)))

theorem laws_eqMatrix (a b c d e f g h' : Int) : AFun Try.prog 48 [] [Ma a b c d, Ma e f g h'] (Bo (decide (a = e) && decide (b = f) && decide (c = g) && decide (d = h'))) [] [] := by
  refine afun_intro fn48 [] rfl (by simp) rfl trivial ?_
  unfold ac48
  repeat' (first | ((with_reducible refine (?_ : (_ : Bool) = _)); (with_reducible rfl)) | (with_reducible refine leafRI ?_) | (with_reducible refine leafRB ?_) | (with_reducible refine leafI ?_) | (with_reducible refine leafB ?_) | ((with_reducible refine (?_ : (_ : Int) ≠ 0)); (first | assumption | omega | (simp only [ints_len] at *; omega) | (simp; omega))) | ((with_reducible refine (?_ : (_ : Int) ≤ _)); (first | assumption | omega | (simp only [ints_len] at *; omega) | (simp; omega))) | ((with_reducible refine (?_ : (_ : Int) < _)); (first | assumption | omega | (simp only [ints_len] at *; omega) | (simp; omega))) | ((with_reducible refine (?_ : (_ : Nat) = _)); (first | (with_reducible rfl) | (simp; done) | (simp only [fr_len]) | (simp only [ints_len]) | omega)) | (refine And.intro ?_ ?_) | (intro h; first | (exact Bool.noConfusion h) | ((simp only [decide_eq_true_eq, decide_eq_false_iff_not, beq_iff_eq, bne_iff_ne, ne_eq, beq_eq_false_iff_ne, bne_eq_false_iff_eq, Bool.not_eq_true', Bool.not_eq_false', Bool.not_eq_true, Bool.not_eq_false, Int.not_le, Int.not_lt, Bool.and_eq_true, Bool.or_eq_true, Bool.or_eq_false_iff, Bool.and_eq_false_iff] at h); (try (exact Bool.noConfusion h))) | skip) | ((with_reducible refine (?_ : chk _ _ = true)); kernel_rfl) | exact trivial)
  any_goals ((first | (with_reducible refine (?_ : (_ : Int) = _)) | (with_reducible refine (?_ : (_ : Bool) = _))); (focus (first | rfl | grind)))

abbrev P3 (l m : List C) (b : Bool) : V := .tup [(true, l), (true, m), (false, [cB b])]
/-- What ReducingStep yields: the form, the matrix. -/
def rsF (a b c : Int) : Int × Int × Int := if dfn a b c then (fv a b c (stp a b c).1 (stp a b c).2.2.1, po a b c (stp a b c).1 (stp a b c).2.2.1 (stp a b c).2.1 (stp a b c).2.2.2, fv a b c (stp a b c).2.1 (stp a b c).2.2.2) else (0, 0, 0)
def rsM (a b c : Int) : Int × Int × Int × Int := if dfn a b c then stp a b c else (0, 0, 0, 0)

theorem spec_ReducingStep (a b c : Int) : AFun Try.prog 45 [] [Fo a b c] (P3 [cI (rsF a b c).1, cI (rsF a b c).2.1, cI (rsF a b c).2.2] [cI (rsM a b c).1, cI (rsM a b c).2.1, cI (rsM a b c).2.2.1, cI (rsM a b c).2.2.2] (dfn a b c)) [] [] := by
  have hd : dfn a b c = true → 1 ≤ a ∧ a ≤ 1000000 ∧ -1000000 ≤ b ∧ b ≤ 1000000 := fun h => by simp [dfn, num] at h; omega
  refine afun_intro fn45 [] rfl (by simp) rfl trivial ?_
  unfold ac45
  repeat' (first | ((with_reducible refine (?_ : (_ : Bool) = _)); (with_reducible rfl)) | (with_reducible refine leafRI ?_) | (with_reducible refine leafRB ?_) | (with_reducible refine leafI ?_) | (with_reducible refine leafB ?_) | ((with_reducible refine (?_ : (_ : Int) ≠ 0)); (first | assumption | omega | (simp only [ints_len] at *; omega) | (simp; omega))) | ((with_reducible refine (?_ : (_ : Int) ≤ _)); (first | assumption | omega | (simp only [ints_len] at *; omega) | (simp; omega))) | ((with_reducible refine (?_ : (_ : Int) < _)); (first | assumption | omega | (simp only [ints_len] at *; omega) | (simp; omega))) | ((with_reducible refine (?_ : (_ : Nat) = _)); (first | (with_reducible rfl) | (simp; done) | (simp only [fr_len]) | (simp only [ints_len]) | omega)) | (refine And.intro ?_ ?_) | (intro h; first | (exact Bool.noConfusion h) | ((simp only [decide_eq_true_eq, decide_eq_false_iff_not, beq_iff_eq, bne_iff_ne, ne_eq, beq_eq_false_iff_ne, bne_eq_false_iff_eq, Bool.not_eq_true', Bool.not_eq_false', Bool.not_eq_true, Bool.not_eq_false, Int.not_le, Int.not_lt, Bool.and_eq_true, Bool.or_eq_true, Bool.or_eq_false_iff, Bool.and_eq_false_iff] at h); (try (exact Bool.noConfusion h))) | skip) | ((refine (?_ : ACall _ _ _ _ _ _ _)); first | ((apply acall (spec_foDefinite _ _ _)); (focus (repeat (first | exact rfl | (refine And.intro ?_ ?_))))) | ((apply acall (spec_reMove _ _ _ ?_ ?_ ?_ ?_)); (focus (repeat (first | exact rfl | (refine And.intro ?_ ?_))))) | ((apply acall (spec_foAct _ _ _ _ _ _ _)); (focus (repeat (first | exact rfl | (refine And.intro ?_ ?_)))))) | ((with_reducible refine (?_ : chk _ _ = true)); kernel_rfl) | exact trivial)
  any_goals (first | (with_reducible refine (?_ : (_ : Int) = _)) | (with_reducible refine (?_ : (_ : Bool) = _))); simp_all [rsF, rsM]
  all_goals (have hd2 := hd (by assumption); omega)

theorem impl_ReducingStep (a b c : Int) : AFun Try.prog 47 [] [Fo a b c] (P3 [cI (rsF a b c).1, cI (rsF a b c).2.1, cI (rsF a b c).2.2] [cI (rsM a b c).1, cI (rsM a b c).2.1, cI (rsM a b c).2.2.1, cI (rsM a b c).2.2.2] (dfn a b c)) [] [] := by
  have hd : dfn a b c = true → 1 ≤ a ∧ a ≤ 1000000 ∧ -1000000 ≤ b ∧ b ≤ 1000000 := fun h => by simp [dfn, num] at h; omega
  refine afun_intro fn47 [] rfl (by simp) rfl trivial ?_
  unfold ac47
  repeat' (first | ((with_reducible refine (?_ : (_ : Bool) = _)); (with_reducible rfl)) | (with_reducible refine leafRI ?_) | (with_reducible refine leafRB ?_) | (with_reducible refine leafI ?_) | (with_reducible refine leafB ?_) | ((with_reducible refine (?_ : (_ : Int) ≠ 0)); (first | assumption | omega | (simp only [ints_len] at *; omega) | (simp; omega))) | ((with_reducible refine (?_ : (_ : Int) ≤ _)); (first | assumption | omega | (simp only [ints_len] at *; omega) | (simp; omega))) | ((with_reducible refine (?_ : (_ : Int) < _)); (first | assumption | omega | (simp only [ints_len] at *; omega) | (simp; omega))) | ((with_reducible refine (?_ : (_ : Nat) = _)); (first | (with_reducible rfl) | (simp; done) | (simp only [fr_len]) | (simp only [ints_len]) | omega)) | (refine And.intro ?_ ?_) | (intro h; first | (exact Bool.noConfusion h) | ((simp only [decide_eq_true_eq, decide_eq_false_iff_not, beq_iff_eq, bne_iff_ne, ne_eq, beq_eq_false_iff_ne, bne_eq_false_iff_eq, Bool.not_eq_true', Bool.not_eq_false', Bool.not_eq_true, Bool.not_eq_false, Int.not_le, Int.not_lt, Bool.and_eq_true, Bool.or_eq_true, Bool.or_eq_false_iff, Bool.and_eq_false_iff] at h); (try (exact Bool.noConfusion h))) | skip) | ((refine (?_ : ACall _ _ _ _ _ _ _)); first | ((apply acall (impl_isDefinite _ _ _)); (focus (repeat (first | exact rfl | (refine And.intro ?_ ?_))))) | ((apply acall (impl_step _ _ _ ?_ ?_ ?_ ?_)); (focus (repeat (first | exact rfl | (refine And.intro ?_ ?_))))) | ((apply acall (impl_substitute _ _ _ _ _ _ _)); (focus (repeat (first | exact rfl | (refine And.intro ?_ ?_)))))) | ((with_reducible refine (?_ : chk _ _ = true)); kernel_rfl) | exact trivial)
  any_goals (first | (with_reducible refine (?_ : (_ : Int) = _)) | (with_reducible refine (?_ : (_ : Bool) = _))); simp_all [rsF, rsM]
  all_goals (have hd2 := hd (by assumption); omega)


theorem claw_ReducingStep (a b c : Int) : AFun Try.prog 14 [] [Fo a b c] (Bo true) [] [] := by
  refine afun_intro fn14 [] rfl (by simp) rfl trivial ?_
  unfold ac14
  repeat' (first | ((with_reducible refine (?_ : (_ : Bool) = _)); (with_reducible rfl)) | (with_reducible refine leafRI ?_) | (with_reducible refine leafRB ?_) | (with_reducible refine leafI ?_) | (with_reducible refine leafB ?_) | ((with_reducible refine (?_ : (_ : Int) ≠ 0)); (first | assumption | omega | (simp only [ints_len] at *; omega) | (simp; omega))) | ((with_reducible refine (?_ : (_ : Int) ≤ _)); (first | assumption | omega | (simp only [ints_len] at *; omega) | (simp; omega))) | ((with_reducible refine (?_ : (_ : Int) < _)); (first | assumption | omega | (simp only [ints_len] at *; omega) | (simp; omega))) | ((with_reducible refine (?_ : (_ : Nat) = _)); (first | (with_reducible rfl) | (simp; done) | (simp only [fr_len]) | (simp only [ints_len]) | omega)) | (refine And.intro ?_ ?_) | (intro h; first | (exact Bool.noConfusion h) | ((simp only [decide_eq_true_eq, decide_eq_false_iff_not, beq_iff_eq, bne_iff_ne, ne_eq, beq_eq_false_iff_ne, bne_eq_false_iff_eq, Bool.not_eq_true', Bool.not_eq_false', Bool.not_eq_true, Bool.not_eq_false, Int.not_le, Int.not_lt, Bool.and_eq_true, Bool.or_eq_true, Bool.or_eq_false_iff, Bool.and_eq_false_iff] at h); (try (exact Bool.noConfusion h))) | skip) | ((refine (?_ : ACall _ _ _ _ _ _ _)); first | ((apply acall (laws_toForm _ _ _)); (focus (repeat (first | exact rfl | (refine And.intro ?_ ?_))))) | ((apply acall (spec_ReducingStep _ _ _)); (focus (repeat (first | exact rfl | (refine And.intro ?_ ?_))))) | ((apply acall (impl_ReducingStep _ _ _)); (focus (repeat (first | exact rfl | (refine And.intro ?_ ?_))))) | ((apply acall (laws_eqForm _ _ _ _ _ _)); (focus (repeat (first | exact rfl | (refine And.intro ?_ ?_))))) | ((apply acall (laws_eqMatrix _ _ _ _ _ _ _ _)); (focus (repeat (first | exact rfl | (refine And.intro ?_ ?_)))))) | ((with_reducible refine (?_ : chk _ _ = true)); kernel_rfl) | exact trivial)
  all_goals simp_all

theorem law_ReducingStep (a b c : Int) (w : World) : Calls Try.prog 14 #[.agg #[.int .i64 a, .int .i64 b, .int .i64 c]] w fun e w' => e = .returned (.bool (true)) ∧ Below w.heap.size w w' := by
  exact law_of_afun (claw_ReducingStep a b c) rfl w

end Go.Proofs.Ytnpmkomnafdgnaa
