/- CountModulo. -/
import Derived.Test.YthdfladfokccdaaF2
namespace Go.Proofs.Ythdfladfokccdaa
set_option linter.unusedSimpArgs false
set_option linter.unusedVariables false
open Go.RowKit
set_option maxRecDepth 100000

/-! counting -/
theorem ediv_le' {i p : Int} (h : 0 ≤ i) (hp : 0 < p) : 0 ≤ i / p ∧ i / p ≤ i := ⟨Int.ediv_nonneg h (by omega), Int.ediv_le_self _ h⟩
def cnt (f : Int → Bool) : Nat → Nat
  | 0 => 0
  | n + 1 => cnt f n + if f n then 1 else 0
theorem cnt_le (f : Int → Bool) : ∀ n, cnt f n ≤ n
  | 0 => Nat.le_refl 0
  | n + 1 => by have := cnt_le f n; simp only [cnt]; split <;> omega
/-- The value of the ternary form, as the machine takes it. -/
def cv (a b c x y z : Int) : Int := wrap64 (wrap64 (wrap64 (wrap64 (a * x) * x) + wrap64 (wrap64 (b * y) * y)) + wrap64 (wrap64 (c * z) * z))
def cvz (a b c p i : Int) : Bool := (cv a b c (i.tdiv p |>.tdiv p) ((i.tdiv p).tmod p) (i.tmod p)).tmod p == 0

theorem dig {q z p : Int} (hq : 0 ≤ q) (hz : 0 ≤ z) (hp : z < p) : (q * p + z).tdiv p = q ∧ (q * p + z).tmod p = z := by
  have h0 : 0 ≤ q * p + z := by have := Int.mul_nonneg hq (show 0 ≤ p by omega); omega
  rw [tdiv_nonneg' h0, tmod_nonneg' h0, Int.add_comm, Int.add_mul_ediv_right _ _ (by omega), Int.ediv_eq_zero_of_lt hz hp, Int.add_mul_emod_self_right, Int.emod_eq_of_lt hz hp]
  omega
theorem cvz_dig {a b c p x y z : Int} (hx : 0 ≤ x) (hy : 0 ≤ y) (hyp : y < p) (hz : 0 ≤ z) (hzp : z < p) : cvz a b c p ((x * p + y) * p + z) = ((cv a b c x y z).tmod p == 0) := by
  have h1 := dig (q := x * p + y) (by have := Int.mul_nonneg hx (show 0 ≤ p by omega); omega) hz hzp
  have h2 := dig hx hy hyp
  simp only [cvz, h1.1, h1.2, h2.1, h2.2]

theorem laws_toTriple (a b c : Int) : AFun Try.prog 41 [] [Tri a b c] (Tri a b c) [] [] := by
  refine afun_intro fn41 (by simp) rfl (by repeat' (first | exact trivial | (simp; done) | refine ⟨?_, ?_⟩)) ?_
  unfold ac41
  repeat' (first | ((with_reducible refine (?_ : (_ : Bool) = _)); (with_reducible rfl)) | ((with_reducible refine (?_ : (_ : Nat × Nat) = _)); (with_reducible rfl)) | (with_reducible refine leafRI ?_) | (with_reducible refine leafRB ?_) | (with_reducible refine leafI ?_) | (with_reducible refine leafB ?_) | ((with_reducible refine (?_ : (_ : Int) = _)); (with_reducible rfl)) | ((with_reducible refine (?_ : (_ : List (List Value)) = _)); (with_reducible rfl)) | ((with_reducible refine (?_ : (_ : Int) ≠ 0)); (first | assumption | omega | (simp only [ints_len] at *; omega) | (simp; omega))) | ((with_reducible refine (?_ : (_ : Int) ≤ _)); (first | assumption | omega | (simp only [ints_len] at *; omega) | (simp; omega))) | ((with_reducible refine (?_ : (_ : Int) < _)); (first | assumption | omega | (simp only [ints_len] at *; omega) | (simp; omega))) | ((with_reducible refine (?_ : (_ : Nat) ≤ _)); (first | omega | (simp only [List.length_cons, List.length_nil]; omega) | (simp; omega))) | ((with_reducible refine (?_ : (_ : Nat) = _)); (first | (with_reducible rfl) | (simp; done) | (simp only [fr_len]) | (simp only [ints_len]) | omega | (simp [*]; done))) | (refine And.intro ?_ ?_) | (intro h; first | (exact Bool.noConfusion h) | ((simp only [decide_eq_true_eq, decide_eq_false_iff_not, beq_iff_eq, bne_iff_ne, ne_eq, beq_eq_false_iff_ne, bne_eq_false_iff_eq, Bool.not_eq_true', Bool.not_eq_false', Bool.not_eq_true, Bool.not_eq_false, Int.not_le, Int.not_lt, Bool.and_eq_true, Bool.or_eq_true, Bool.or_eq_false_iff, Bool.and_eq_false_iff] at h); (try (first | (exact Bool.noConfusion h) | (exact (h trivial).elim)))) | skip) | ((with_reducible refine (?_ : chk _ _ = true)); kernel_rfl) | exact trivial)
  all_goals rfl

end Go.Proofs.Ythdfladfokccdaa
