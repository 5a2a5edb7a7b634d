/- PrimeForm. -/
import Derived.Test.YtnpmkomnafdgnaaF8
namespace Go.Proofs.Ytnpmkomnafdgnaa
set_option linter.unusedSimpArgs false
set_option linter.unusedVariables false
open Go.RowKit
set_option maxRecDepth 100000

theorem spec_foContent (a b c : Int) (h1 : -9223372036854775807 ≤ a) (h2 : a ≤ 9223372036854775807) (h3 : -9223372036854775807 ≤ b) (h4 : b ≤ 9223372036854775807) (h5 : -9223372036854775807 ≤ c) (h6 : c ≤ 9223372036854775807) : AFun Try.prog 101 [] [Fo a b c] (I (Int.gcd (Int.gcd a b) c)) [] [] := by
  have g1 : Int.gcd a b ≤ 9223372036854775807 := by
    by_cases h : a = 0
    · subst h; simp; omega
    · have := Int.gcd_le_natAbs_left b h; omega
  have g2 : Int.gcd b c ≤ 9223372036854775807 := by
    by_cases h : b = 0
    · subst h; simp; omega
    · have := Int.gcd_le_natAbs_left c h; omega
  refine afun_intro fn101 [] rfl (by simp) rfl trivial ?_
  unfold ac101
  repeat' (first | ((with_reducible refine (?_ : (_ : Bool) = _)); (with_reducible rfl)) | (with_reducible refine leafRI ?_) | (with_reducible refine leafRB ?_) | (with_reducible refine leafI ?_) | (with_reducible refine leafB ?_) | ((with_reducible refine (?_ : (_ : Int) ≠ 0)); (first | assumption | omega | (simp only [ints_len] at *; omega) | (simp; omega))) | ((with_reducible refine (?_ : (_ : Int) ≤ _)); (first | assumption | omega | (simp only [ints_len] at *; omega) | (simp; omega))) | ((with_reducible refine (?_ : (_ : Int) < _)); (first | assumption | omega | (simp only [ints_len] at *; omega) | (simp; omega))) | ((with_reducible refine (?_ : (_ : Nat) = _)); (first | (with_reducible rfl) | (simp; done) | (simp only [fr_len]) | (simp only [ints_len]) | omega)) | (refine And.intro ?_ ?_) | (intro h; first | (exact Bool.noConfusion h) | ((simp only [decide_eq_true_eq, decide_eq_false_iff_not, beq_iff_eq, bne_iff_ne, ne_eq, beq_eq_false_iff_ne, bne_eq_false_iff_eq, Bool.not_eq_true', Bool.not_eq_false', Bool.not_eq_true, Bool.not_eq_false, Int.not_le, Int.not_lt, Bool.and_eq_true, Bool.or_eq_true, Bool.or_eq_false_iff, Bool.and_eq_false_iff] at h); (try (exact Bool.noConfusion h))) | skip) | ((refine (?_ : ACall _ _ _ _ _ _ _)); first | ((apply acall (spec_nuGcd _ _ ?_ ?_ ?_ ?_)); (focus (repeat (first | exact rfl | (refine And.intro ?_ ?_)))))) | ((with_reducible refine (?_ : chk _ _ = true)); kernel_rfl) | exact trivial)
  all_goals (first | rfl | rw [Int.gcd_assoc])

theorem impl_content (a b c : Int) (h1 : -9223372036854775807 ≤ a) (h2 : a ≤ 9223372036854775807) (h3 : -9223372036854775807 ≤ b) (h4 : b ≤ 9223372036854775807) (h5 : -9223372036854775807 ≤ c) (h6 : c ≤ 9223372036854775807) : AFun Try.prog 107 [] [Fo a b c] (I (Int.gcd (Int.gcd a b) c)) [] [] := by
  have g1 : Int.gcd a b ≤ 9223372036854775807 := by
    by_cases h : a = 0
    · subst h; simp; omega
    · have := Int.gcd_le_natAbs_left b h; omega
  have g2 : Int.gcd b c ≤ 9223372036854775807 := by
    by_cases h : b = 0
    · subst h; simp; omega
    · have := Int.gcd_le_natAbs_left c h; omega
  refine afun_intro fn107 [] rfl (by simp) rfl trivial ?_
  unfold ac107
  repeat' (first | ((with_reducible refine (?_ : (_ : Bool) = _)); (with_reducible rfl)) | (with_reducible refine leafRI ?_) | (with_reducible refine leafRB ?_) | (with_reducible refine leafI ?_) | (with_reducible refine leafB ?_) | ((with_reducible refine (?_ : (_ : Int) ≠ 0)); (first | assumption | omega | (simp only [ints_len] at *; omega) | (simp; omega))) | ((with_reducible refine (?_ : (_ : Int) ≤ _)); (first | assumption | omega | (simp only [ints_len] at *; omega) | (simp; omega))) | ((with_reducible refine (?_ : (_ : Int) < _)); (first | assumption | omega | (simp only [ints_len] at *; omega) | (simp; omega))) | ((with_reducible refine (?_ : (_ : Nat) = _)); (first | (with_reducible rfl) | (simp; done) | (simp only [fr_len]) | (simp only [ints_len]) | omega)) | (refine And.intro ?_ ?_) | (intro h; first | (exact Bool.noConfusion h) | ((simp only [decide_eq_true_eq, decide_eq_false_iff_not, beq_iff_eq, bne_iff_ne, ne_eq, beq_eq_false_iff_ne, bne_eq_false_iff_eq, Bool.not_eq_true', Bool.not_eq_false', Bool.not_eq_true, Bool.not_eq_false, Int.not_le, Int.not_lt, Bool.and_eq_true, Bool.or_eq_true, Bool.or_eq_false_iff, Bool.and_eq_false_iff] at h); (try (exact Bool.noConfusion h))) | skip) | ((refine (?_ : ACall _ _ _ _ _ _ _)); first | ((apply acall (impl_gcd _ _ ?_ ?_ ?_ ?_)); (focus (repeat (first | exact rfl | (refine And.intro ?_ ?_)))))) | ((with_reducible refine (?_ : chk _ _ = true)); kernel_rfl) | exact trivial)
  all_goals (first | rfl | rw [Int.gcd_assoc])


/-- b is a middle coefficient for p. -/
def okB (d p b : Int) : Prop := (b * b - d) % (4 * p) = 0
noncomputable def exB (d p : Int) : Bool := @decide (∃ b, 0 ≤ b ∧ b ≤ p ∧ okB d p b) (Classical.propDecidable _)
noncomputable def fstB (d p : Int) : Int := Classical.epsilon fun b => 0 ≤ b ∧ okB d p b ∧ ∀ b', 0 ≤ b' → b' < b → ¬ okB d p b'
theorem fstB_eq {d p b : Int} (h0 : 0 ≤ b) (h1 : okB d p b) (h2 : ∀ b', 0 ≤ b' → b' < b → ¬ okB d p b') : fstB d p = b := by
  have h := Classical.epsilon_spec (p := fun b => 0 ≤ b ∧ okB d p b ∧ ∀ b', 0 ≤ b' → b' < b → ¬ okB d p b') ⟨b, h0, h1, h2⟩
  change 0 ≤ fstB d p ∧ okB d p (fstB d p) ∧ ∀ b', 0 ≤ b' → b' < fstB d p → ¬ okB d p b' at h
  obtain ⟨k0, k1, k2⟩ := h
  rcases Int.lt_trichotomy (fstB d p) b with hl | hl | hl
  · exact absurd k1 (h2 _ k0 hl)
  · exact hl
  · exact absurd h1 (k2 _ h0 hl)
/-- What the search yields: the form, and is it primitive. -/
noncomputable def pfF (d p : Int) : Int × Int × Int := if exB d p then (p, fstB d p, (fstB d p * fstB d p - d) / (4 * p)) else (0, 0, 0)
noncomputable def pfB (d p : Int) : Bool := exB d p && decide ((Int.gcd (Int.gcd p (fstB d p)) ((fstB d p * fstB d p - d) / (4 * p)) : Int) = 1)

theorem spec_ipForm (d p : Int) (h1 : -2000 ≤ d) (h2 : d ≤ 0) (h3 : 1 ≤ p) (h4 : p ≤ 10000) : AFun Try.prog 78 [] [I d, I p] (Pa [cI (pfF d p).1, cI (pfF d p).2.1, cI (pfF d p).2.2] (pfB d p)) [] [] := by
  have w4 : wrap64 (4 * p) = 4 * p := wrap_small (by omega) (by omega)
  refine afun_intro fn78 [] rfl (by simp) rfl trivial ?_
  unfold ac78
  repeat' (first | ((with_reducible refine (?_ : (_ : Bool) = _)); (with_reducible rfl)) | (with_reducible refine leafRI ?_) | (with_reducible refine leafRB ?_) | (with_reducible refine leafI ?_) | (with_reducible refine leafB ?_) | ((with_reducible refine (?_ : (_ : Int) ≠ 0)); (first | assumption | omega | (simp only [ints_len] at *; omega) | (simp; omega))) | ((with_reducible refine (?_ : (_ : Int) ≤ _)); (first | assumption | omega | (simp only [ints_len] at *; omega) | (simp; omega))) | ((with_reducible refine (?_ : (_ : Int) < _)); (first | assumption | omega | (simp only [ints_len] at *; omega) | (simp; omega))) | ((with_reducible refine (?_ : (_ : Nat) = _)); (first | (with_reducible rfl) | (simp; done) | (simp only [fr_len]) | (simp only [ints_len]) | omega)) | (refine And.intro ?_ ?_) | (intro h; first | (exact Bool.noConfusion h) | ((simp only [decide_eq_true_eq, decide_eq_false_iff_not, beq_iff_eq, bne_iff_ne, ne_eq, beq_eq_false_iff_ne, bne_eq_false_iff_eq, Bool.not_eq_true', Bool.not_eq_false', Bool.not_eq_true, Bool.not_eq_false, Int.not_le, Int.not_lt, Bool.and_eq_true, Bool.or_eq_true, Bool.or_eq_false_iff, Bool.and_eq_false_iff] at h); (try (exact Bool.noConfusion h))) | skip) | ((with_reducible refine (?_ : chk _ _ = true)); kernel_rfl) | exact trivial)
  refine loop_rule (σ := Int) (fun s => [(6, I s)]) (fun s => [((4, 0), .bx [cI 0, cI 0, cI 0])]) (fun s => 0 ≤ s ∧ s ≤ p + 1 ∧ ∀ b', 0 ≤ b' → b' < s → ¬ okB d p b') (fun s => (p + 1 - s).toNat) 0 ?_ (by repeat' (first | exact trivial | exact rfl | (refine And.intro ?_ ?_))) (by repeat' (first | exact trivial | exact rfl | (refine And.intro ?_ ?_))) (fun s => ⟨rfl, rfl⟩) (fun s i h => absurd h (Nat.not_lt_zero i)) ?_
  · exact ⟨by omega, by omega, fun b' k1 k2 => by omega⟩
  · rintro b ⟨g1, g2, g3⟩
    have e1 : 0 ≤ b * b := Int.mul_nonneg g1 g1
    have e2 : b * b ≤ 10001 * 10001 := Int.mul_le_mul (by omega) (by omega) g1 (by omega)
    have w5 : wrap64 (wrap64 (b * b) - d) = b * b - d := by rw [wrap_small (n := b * b) (by omega) (by omega)]; exact wrap_small (by omega) (by omega)
    have w6 : (b * b - d).tmod (4 * p) = (b * b - d) % (4 * p) := tmod_nonneg' (by omega)
    have e3 : 0 ≤ (b * b - d) / (4 * p) := Int.ediv_nonneg (by omega) (by omega)
    have e4 : (b * b - d) / (4 * p) ≤ b * b - d := Int.ediv_le_self _ (by omega)
    have w7 : wrap64 ((b * b - d).tdiv (4 * p)) = (b * b - d) / (4 * p) := by rw [tdiv_nonneg' (by omega)]; exact wrap_small (by omega) (by omega)
    have w8 : wrap64 ((wrap64 (wrap64 (b * b) - d)).tdiv (wrap64 (4 * p))) = (b * b - d) / (4 * p) := by rw [w5, w4, w7]
    have hyes : (b * b - d) % (4 * p) = 0 → b ≤ p → exB d p = true ∧ fstB d p = b := fun h h' => ⟨by simp only [exB, decide_eq_true_eq]; exact ⟨b, g1, h', h⟩, fstB_eq g1 h g3⟩
    have hno : p < b → exB d p = false := fun h => by
      simp only [exB, decide_eq_false_iff_not]
      rintro ⟨b', k1, k2, k3⟩
      exact g3 b' k1 (by omega) k3
    have hf : (wrap64 (wrap64 (b * b) - d)).tmod (wrap64 (4 * p)) = 0 → b ≤ p → p = (pfF d p).1 ∧ b = (pfF d p).2.1 ∧ wrap64 ((wrap64 (wrap64 (b * b) - d)).tdiv (wrap64 (4 * p))) = (pfF d p).2.2 ∧ (((Int.gcd (Int.gcd p b) (wrap64 ((wrap64 (wrap64 (b * b) - d)).tdiv (wrap64 (4 * p)))) : Nat) : Int) == 1) = pfB d p := fun h h' => by
      rw [w5, w4, w6] at h
      obtain ⟨x1, x2⟩ := hyes h h'
      rw [w8]
      refine ⟨by simp [pfF, x1], by simp [pfF, x1, x2], by simp [pfF, x1, x2], ?_⟩
      rw [pfB, x1, x2, Bool.eq_iff_iff]
      simp
    have hg : p < b → (0 : Int) = (pfF d p).1 ∧ (0 : Int) = (pfF d p).2.1 ∧ (0 : Int) = (pfF d p).2.2 ∧ false = pfB d p := fun h => by
      have := hno h
      simp [pfF, pfB, this]
    repeat' (first | ((with_reducible refine (?_ : (_ : Bool) = _)); (with_reducible rfl)) | (with_reducible refine leafRI ?_) | (with_reducible refine leafRB ?_) | (with_reducible refine leafI ?_) | (with_reducible refine leafB ?_) | ((with_reducible refine (?_ : (_ : Int) ≠ 0)); (first | assumption | omega | (simp only [ints_len] at *; omega) | (simp; omega))) | ((with_reducible refine (?_ : (_ : Int) ≤ _)); (first | assumption | omega | (simp only [ints_len] at *; omega) | (simp; omega))) | ((with_reducible refine (?_ : (_ : Int) < _)); (first | assumption | omega | (simp only [ints_len] at *; omega) | (simp; omega))) | ((with_reducible refine (?_ : (_ : Nat) = _)); (first | (with_reducible rfl) | (simp; done) | (simp only [fr_len]) | (simp only [ints_len]) | omega)) | (refine And.intro ?_ ?_) | (intro h; first | (exact Bool.noConfusion h) | ((simp only [decide_eq_true_eq, decide_eq_false_iff_not, beq_iff_eq, bne_iff_ne, ne_eq, beq_eq_false_iff_ne, bne_eq_false_iff_eq, Bool.not_eq_true', Bool.not_eq_false', Bool.not_eq_true, Bool.not_eq_false, Int.not_le, Int.not_lt, Bool.and_eq_true, Bool.or_eq_true, Bool.or_eq_false_iff, Bool.and_eq_false_iff] at h); (try (exact Bool.noConfusion h))) | skip) | ((refine (?_ : ACall _ _ _ _ _ _ _)); first | ((apply acall (spec_foContent _ _ _ ?_ ?_ ?_ ?_ ?_ ?_)); (focus (repeat (first | exact rfl | (refine And.intro ?_ ?_)))))) | ((with_reducible refine (?_ : chk _ _ = true)); kernel_rfl) | exact trivial)
    · exact (hf h (by assumption)).1
    · exact (hf h (by assumption)).2.1
    · exact (hf h (by assumption)).2.2.1
    · exact (hf h (by assumption)).2.2.2
    · rw [w5, w4, w6] at h
      refine ⟨(wrap64 (b + 1)), ?_, ?_, rfl, (by repeat' (first | exact trivial | exact rfl | (refine And.intro ?_ ?_))), (by repeat' (first | exact trivial | exact rfl | (refine And.intro ?_ ?_)))⟩
      · rw [wrap_small (n := b + 1) (by omega) (by omega)]
        refine ⟨by omega, by omega, fun b' k1 k2 => ?_⟩
        by_cases k : b' = b
        · rw [k]; exact h
        · exact g3 b' k1 (by omega)
      · rw [wrap_small (n := b + 1) (by omega) (by omega)]
        omega
    · exact (hg h).1
    · exact (hg h).2.1
    · exact (hg h).2.2.1
    · exact (hg h).2.2.2

theorem impl_primeForm (d p : Int) (h1 : -2000 ≤ d) (h2 : d ≤ 0) (h3 : 1 ≤ p) (h4 : p ≤ 10000) : AFun Try.prog 79 [] [I d, I p] (Pa [cI (pfF d p).1, cI (pfF d p).2.1, cI (pfF d p).2.2] (pfB d p)) [] [] := by
  have w4 : wrap64 (4 * p) = 4 * p := wrap_small (by omega) (by omega)
  refine afun_intro fn79 [] rfl (by simp) rfl trivial ?_
  unfold ac79
  repeat' (first | ((with_reducible refine (?_ : (_ : Bool) = _)); (with_reducible rfl)) | (with_reducible refine leafRI ?_) | (with_reducible refine leafRB ?_) | (with_reducible refine leafI ?_) | (with_reducible refine leafB ?_) | ((with_reducible refine (?_ : (_ : Int) ≠ 0)); (first | assumption | omega | (simp only [ints_len] at *; omega) | (simp; omega))) | ((with_reducible refine (?_ : (_ : Int) ≤ _)); (first | assumption | omega | (simp only [ints_len] at *; omega) | (simp; omega))) | ((with_reducible refine (?_ : (_ : Int) < _)); (first | assumption | omega | (simp only [ints_len] at *; omega) | (simp; omega))) | ((with_reducible refine (?_ : (_ : Nat) = _)); (first | (with_reducible rfl) | (simp; done) | (simp only [fr_len]) | (simp only [ints_len]) | omega)) | (refine And.intro ?_ ?_) | (intro h; first | (exact Bool.noConfusion h) | ((simp only [decide_eq_true_eq, decide_eq_false_iff_not, beq_iff_eq, bne_iff_ne, ne_eq, beq_eq_false_iff_ne, bne_eq_false_iff_eq, Bool.not_eq_true', Bool.not_eq_false', Bool.not_eq_true, Bool.not_eq_false, Int.not_le, Int.not_lt, Bool.and_eq_true, Bool.or_eq_true, Bool.or_eq_false_iff, Bool.and_eq_false_iff] at h); (try (exact Bool.noConfusion h))) | skip) | ((with_reducible refine (?_ : chk _ _ = true)); kernel_rfl) | exact trivial)
  refine loop_rule (σ := Int) (fun s => [(6, I s)]) (fun s => [((4, 0), .bx [cI 0, cI 0, cI 0])]) (fun s => 0 ≤ s ∧ s ≤ p + 1 ∧ ∀ b', 0 ≤ b' → b' < s → ¬ okB d p b') (fun s => (p + 1 - s).toNat) 0 ?_ (by repeat' (first | exact trivial | exact rfl | (refine And.intro ?_ ?_))) (by repeat' (first | exact trivial | exact rfl | (refine And.intro ?_ ?_))) (fun s => ⟨rfl, rfl⟩) (fun s i h => absurd h (Nat.not_lt_zero i)) ?_
  · exact ⟨by omega, by omega, fun b' k1 k2 => by omega⟩
  · rintro b ⟨g1, g2, g3⟩
    have e1 : 0 ≤ b * b := Int.mul_nonneg g1 g1
    have e2 : b * b ≤ 10001 * 10001 := Int.mul_le_mul (by omega) (by omega) g1 (by omega)
    have w5 : wrap64 (wrap64 (b * b) - d) = b * b - d := by rw [wrap_small (n := b * b) (by omega) (by omega)]; exact wrap_small (by omega) (by omega)
    have w6 : (b * b - d).tmod (4 * p) = (b * b - d) % (4 * p) := tmod_nonneg' (by omega)
    have e3 : 0 ≤ (b * b - d) / (4 * p) := Int.ediv_nonneg (by omega) (by omega)
    have e4 : (b * b - d) / (4 * p) ≤ b * b - d := Int.ediv_le_self _ (by omega)
    have w7 : wrap64 ((b * b - d).tdiv (4 * p)) = (b * b - d) / (4 * p) := by rw [tdiv_nonneg' (by omega)]; exact wrap_small (by omega) (by omega)
    have w8 : wrap64 ((wrap64 (wrap64 (b * b) - d)).tdiv (wrap64 (4 * p))) = (b * b - d) / (4 * p) := by rw [w5, w4, w7]
    have hyes : (b * b - d) % (4 * p) = 0 → b ≤ p → exB d p = true ∧ fstB d p = b := fun h h' => ⟨by simp only [exB, decide_eq_true_eq]; exact ⟨b, g1, h', h⟩, fstB_eq g1 h g3⟩
    have hno : p < b → exB d p = false := fun h => by
      simp only [exB, decide_eq_false_iff_not]
      rintro ⟨b', k1, k2, k3⟩
      exact g3 b' k1 (by omega) k3
    have hf : (wrap64 (wrap64 (b * b) - d)).tmod (wrap64 (4 * p)) = 0 → b ≤ p → p = (pfF d p).1 ∧ b = (pfF d p).2.1 ∧ wrap64 ((wrap64 (wrap64 (b * b) - d)).tdiv (wrap64 (4 * p))) = (pfF d p).2.2 ∧ (((Int.gcd (Int.gcd p b) (wrap64 ((wrap64 (wrap64 (b * b) - d)).tdiv (wrap64 (4 * p)))) : Nat) : Int) == 1) = pfB d p := fun h h' => by
      rw [w5, w4, w6] at h
      obtain ⟨x1, x2⟩ := hyes h h'
      rw [w8]
      refine ⟨by simp [pfF, x1], by simp [pfF, x1, x2], by simp [pfF, x1, x2], ?_⟩
      rw [pfB, x1, x2, Bool.eq_iff_iff]
      simp
    have hg : p < b → (0 : Int) = (pfF d p).1 ∧ (0 : Int) = (pfF d p).2.1 ∧ (0 : Int) = (pfF d p).2.2 ∧ false = pfB d p := fun h => by
      have := hno h
      simp [pfF, pfB, this]
    repeat' (first | ((with_reducible refine (?_ : (_ : Bool) = _)); (with_reducible rfl)) | (with_reducible refine leafRI ?_) | (with_reducible refine leafRB ?_) | (with_reducible refine leafI ?_) | (with_reducible refine leafB ?_) | ((with_reducible refine (?_ : (_ : Int) ≠ 0)); (first | assumption | omega | (simp only [ints_len] at *; omega) | (simp; omega))) | ((with_reducible refine (?_ : (_ : Int) ≤ _)); (first | assumption | omega | (simp only [ints_len] at *; omega) | (simp; omega))) | ((with_reducible refine (?_ : (_ : Int) < _)); (first | assumption | omega | (simp only [ints_len] at *; omega) | (simp; omega))) | ((with_reducible refine (?_ : (_ : Nat) = _)); (first | (with_reducible rfl) | (simp; done) | (simp only [fr_len]) | (simp only [ints_len]) | omega)) | (refine And.intro ?_ ?_) | (intro h; first | (exact Bool.noConfusion h) | ((simp only [decide_eq_true_eq, decide_eq_false_iff_not, beq_iff_eq, bne_iff_ne, ne_eq, beq_eq_false_iff_ne, bne_eq_false_iff_eq, Bool.not_eq_true', Bool.not_eq_false', Bool.not_eq_true, Bool.not_eq_false, Int.not_le, Int.not_lt, Bool.and_eq_true, Bool.or_eq_true, Bool.or_eq_false_iff, Bool.and_eq_false_iff] at h); (try (exact Bool.noConfusion h))) | skip) | ((refine (?_ : ACall _ _ _ _ _ _ _)); first | ((apply acall (impl_content _ _ _ ?_ ?_ ?_ ?_ ?_ ?_)); (focus (repeat (first | exact rfl | (refine And.intro ?_ ?_)))))) | ((with_reducible refine (?_ : chk _ _ = true)); kernel_rfl) | exact trivial)
    · exact (hf h (by assumption)).1
    · exact (hf h (by assumption)).2.1
    · exact (hf h (by assumption)).2.2.1
    · exact (hf h (by assumption)).2.2.2
    · rw [w5, w4, w6] at h
      refine ⟨(wrap64 (b + 1)), ?_, ?_, rfl, (by repeat' (first | exact trivial | exact rfl | (refine And.intro ?_ ?_))), (by repeat' (first | exact trivial | exact rfl | (refine And.intro ?_ ?_)))⟩
      · rw [wrap_small (n := b + 1) (by omega) (by omega)]
        refine ⟨by omega, by omega, fun b' k1 k2 => ?_⟩
        by_cases k : b' = b
        · rw [k]; exact h
        · exact g3 b' k1 (by omega)
      · rw [wrap_small (n := b + 1) (by omega) (by omega)]
        omega
    · exact (hg h).1
    · exact (hg h).2.1
    · exact (hg h).2.2.1
    · exact (hg h).2.2.2


/-- A prime that is shown. -/
noncomputable def shp (p : Int) : Bool := decide (p ≤ 10000) && prime p
theorem shp_ge {p : Int} (h : shp p = true) : 2 ≤ p ∧ p ≤ 10000 := by
  simp [shp] at h
  exact ⟨(prime_iff.1 h.2).1, h.1⟩

theorem spec_ipPrime (p : Int) : AFun Try.prog 59 [] [I p] (Bo (shp p)) [] [] := by
  have hp : prime p = true → 2 ≤ p := fun h => (prime_iff.1 h).1
  refine afun_intro fn59 [] rfl (by simp) rfl trivial ?_
  unfold ac59
  repeat' (first | ((with_reducible refine (?_ : (_ : Bool) = _)); (with_reducible rfl)) | (with_reducible refine leafRI ?_) | (with_reducible refine leafRB ?_) | (with_reducible refine leafI ?_) | (with_reducible refine leafB ?_) | ((with_reducible refine (?_ : (_ : Int) ≠ 0)); (first | assumption | omega | (simp only [ints_len] at *; omega) | (simp; omega))) | ((with_reducible refine (?_ : (_ : Int) ≤ _)); (first | assumption | omega | (simp only [ints_len] at *; omega) | (simp; omega))) | ((with_reducible refine (?_ : (_ : Int) < _)); (first | assumption | omega | (simp only [ints_len] at *; omega) | (simp; omega))) | ((with_reducible refine (?_ : (_ : Nat) = _)); (first | (with_reducible rfl) | (simp; done) | (simp only [fr_len]) | (simp only [ints_len]) | omega)) | (refine And.intro ?_ ?_) | (intro h; first | (exact Bool.noConfusion h) | ((simp only [decide_eq_true_eq, decide_eq_false_iff_not, beq_iff_eq, bne_iff_ne, ne_eq, beq_eq_false_iff_ne, bne_eq_false_iff_eq, Bool.not_eq_true', Bool.not_eq_false', Bool.not_eq_true, Bool.not_eq_false, Int.not_le, Int.not_lt, Bool.and_eq_true, Bool.or_eq_true, Bool.or_eq_false_iff, Bool.and_eq_false_iff] at h); (try (exact Bool.noConfusion h))) | skip) | ((refine (?_ : ACall _ _ _ _ _ _ _)); first | ((apply acall (spec_l1In _ _ _)); (focus (repeat (first | exact rfl | (refine And.intro ?_ ?_))))) | ((apply acall (spec_nuPrime _ ?_)); (focus (repeat (first | exact rfl | (refine And.intro ?_ ?_)))))) | ((with_reducible refine (?_ : chk _ _ = true)); kernel_rfl) | exact trivial)
  all_goals (unfold shp; grind)

theorem impl_isShownPrime (p : Int) : AFun Try.prog 61 [] [I p] (Bo (shp p)) [] [] := by
  refine afun_intro fn61 [] rfl (by simp) rfl trivial ?_
  unfold ac61
  repeat' (first | ((with_reducible refine (?_ : (_ : Bool) = _)); (with_reducible rfl)) | (with_reducible refine leafRI ?_) | (with_reducible refine leafRB ?_) | (with_reducible refine leafI ?_) | (with_reducible refine leafB ?_) | ((with_reducible refine (?_ : (_ : Int) ≠ 0)); (first | assumption | omega | (simp only [ints_len] at *; omega) | (simp; omega))) | ((with_reducible refine (?_ : (_ : Int) ≤ _)); (first | assumption | omega | (simp only [ints_len] at *; omega) | (simp; omega))) | ((with_reducible refine (?_ : (_ : Int) < _)); (first | assumption | omega | (simp only [ints_len] at *; omega) | (simp; omega))) | ((with_reducible refine (?_ : (_ : Nat) = _)); (first | (with_reducible rfl) | (simp; done) | (simp only [fr_len]) | (simp only [ints_len]) | omega)) | (refine And.intro ?_ ?_) | (intro h; first | (exact Bool.noConfusion h) | ((simp only [decide_eq_true_eq, decide_eq_false_iff_not, beq_iff_eq, bne_iff_ne, ne_eq, beq_eq_false_iff_ne, bne_eq_false_iff_eq, Bool.not_eq_true', Bool.not_eq_false', Bool.not_eq_true, Bool.not_eq_false, Int.not_le, Int.not_lt, Bool.and_eq_true, Bool.or_eq_true, Bool.or_eq_false_iff, Bool.and_eq_false_iff] at h); (try (exact Bool.noConfusion h))) | skip) | ((refine (?_ : ACall _ _ _ _ _ _ _)); first | ((apply acall (impl_isPrime _ ?_)); (focus (repeat (first | exact rfl | (refine And.intro ?_ ?_)))))) | ((with_reducible refine (?_ : chk _ _ = true)); kernel_rfl) | exact trivial)
  all_goals (unfold shp; grind)

noncomputable def pG (d p : Int) : Bool := decide (-2000 ≤ d) && decide (d ≤ -3) && decide (d % 4 < 2) && shp p && pfB d p
noncomputable def pF (d p : Int) : Int × Int × Int := if pG d p then pfF d p else (0, 0, 0)

theorem spec_PrimeForm (d p : Int) : AFun Try.prog 40 [] [I d, I p] (Pa [cI (pF d p).1, cI (pF d p).2.1, cI (pF d p).2.2] (pG d p)) [] [] := by
  have hs : shp p = true → 2 ≤ p ∧ p ≤ 10000 := shp_ge
  refine afun_intro fn40 [] rfl (by simp) rfl trivial ?_
  unfold ac40
  repeat' (first | ((with_reducible refine (?_ : (_ : Bool) = _)); (with_reducible rfl)) | (with_reducible refine leafRI ?_) | (with_reducible refine leafRB ?_) | (with_reducible refine leafI ?_) | (with_reducible refine leafB ?_) | ((with_reducible refine (?_ : (_ : Int) ≠ 0)); (first | assumption | omega | (simp only [ints_len] at *; omega) | (simp; omega))) | ((with_reducible refine (?_ : (_ : Int) ≤ _)); (first | assumption | omega | (simp only [ints_len] at *; omega) | (simp; omega))) | ((with_reducible refine (?_ : (_ : Int) < _)); (first | assumption | omega | (simp only [ints_len] at *; omega) | (simp; omega))) | ((with_reducible refine (?_ : (_ : Nat) = _)); (first | (with_reducible rfl) | (simp; done) | (simp only [fr_len]) | (simp only [ints_len]) | omega)) | (refine And.intro ?_ ?_) | (intro h; first | (exact Bool.noConfusion h) | ((simp only [decide_eq_true_eq, decide_eq_false_iff_not, beq_iff_eq, bne_iff_ne, ne_eq, beq_eq_false_iff_ne, bne_eq_false_iff_eq, Bool.not_eq_true', Bool.not_eq_false', Bool.not_eq_true, Bool.not_eq_false, Int.not_le, Int.not_lt, Bool.and_eq_true, Bool.or_eq_true, Bool.or_eq_false_iff, Bool.and_eq_false_iff] at h); (try (exact Bool.noConfusion h))) | skip) | ((refine (?_ : ACall _ _ _ _ _ _ _)); first | ((apply acall (spec_reDisc _)); (focus (repeat (first | exact rfl | (refine And.intro ?_ ?_))))) | ((apply acall (spec_ipPrime _)); (focus (repeat (first | exact rfl | (refine And.intro ?_ ?_))))) | ((apply acall (spec_ipForm _ _ ?_ ?_ ?_ ?_)); (focus (repeat (first | exact rfl | (refine And.intro ?_ ?_)))))) | ((with_reducible refine (?_ : chk _ _ = true)); kernel_rfl) | exact trivial)
  any_goals (first | (with_reducible refine (?_ : (_ : Int) = _)) | (with_reducible refine (?_ : (_ : Bool) = _))); (try unfold pF); unfold pG; grind
  all_goals (have hs2 := hs (by assumption); omega)

theorem impl_PrimeForm (d p : Int) : AFun Try.prog 41 [] [I d, I p] (Pa [cI (pF d p).1, cI (pF d p).2.1, cI (pF d p).2.2] (pG d p)) [] [] := by
  have hs : shp p = true → 2 ≤ p ∧ p ≤ 10000 := shp_ge
  refine afun_intro fn41 [] rfl (by simp) rfl trivial ?_
  unfold ac41
  repeat' (first | ((with_reducible refine (?_ : (_ : Bool) = _)); (with_reducible rfl)) | (with_reducible refine leafRI ?_) | (with_reducible refine leafRB ?_) | (with_reducible refine leafI ?_) | (with_reducible refine leafB ?_) | ((with_reducible refine (?_ : (_ : Int) ≠ 0)); (first | assumption | omega | (simp only [ints_len] at *; omega) | (simp; omega))) | ((with_reducible refine (?_ : (_ : Int) ≤ _)); (first | assumption | omega | (simp only [ints_len] at *; omega) | (simp; omega))) | ((with_reducible refine (?_ : (_ : Int) < _)); (first | assumption | omega | (simp only [ints_len] at *; omega) | (simp; omega))) | ((with_reducible refine (?_ : (_ : Nat) = _)); (first | (with_reducible rfl) | (simp; done) | (simp only [fr_len]) | (simp only [ints_len]) | omega)) | (refine And.intro ?_ ?_) | (intro h; first | (exact Bool.noConfusion h) | ((simp only [decide_eq_true_eq, decide_eq_false_iff_not, beq_iff_eq, bne_iff_ne, ne_eq, beq_eq_false_iff_ne, bne_eq_false_iff_eq, Bool.not_eq_true', Bool.not_eq_false', Bool.not_eq_true, Bool.not_eq_false, Int.not_le, Int.not_lt, Bool.and_eq_true, Bool.or_eq_true, Bool.or_eq_false_iff, Bool.and_eq_false_iff] at h); (try (exact Bool.noConfusion h))) | skip) | ((refine (?_ : ACall _ _ _ _ _ _ _)); first | ((apply acall (impl_isNegativeDisc _)); (focus (repeat (first | exact rfl | (refine And.intro ?_ ?_))))) | ((apply acall (impl_isShownPrime _)); (focus (repeat (first | exact rfl | (refine And.intro ?_ ?_))))) | ((apply acall (impl_primeForm _ _ ?_ ?_ ?_ ?_)); (focus (repeat (first | exact rfl | (refine And.intro ?_ ?_)))))) | ((with_reducible refine (?_ : chk _ _ = true)); kernel_rfl) | exact trivial)
  any_goals (first | (with_reducible refine (?_ : (_ : Int) = _)) | (with_reducible refine (?_ : (_ : Bool) = _))); (try unfold pF); unfold pG; grind
  all_goals (have hs2 := hs (by assumption); omega)


theorem claw_PrimeForm (d p : Int) : AFun Try.prog 12 [] [I d, I p] (Bo true) [] [] := by
  refine afun_intro fn12 [] rfl (by simp) rfl trivial ?_
  unfold ac12
  repeat' (first | ((with_reducible refine (?_ : (_ : Bool) = _)); (with_reducible rfl)) | (with_reducible refine leafRI ?_) | (with_reducible refine leafRB ?_) | (with_reducible refine leafI ?_) | (with_reducible refine leafB ?_) | ((with_reducible refine (?_ : (_ : Int) ≠ 0)); (first | assumption | omega | (simp only [ints_len] at *; omega) | (simp; omega))) | ((with_reducible refine (?_ : (_ : Int) ≤ _)); (first | assumption | omega | (simp only [ints_len] at *; omega) | (simp; omega))) | ((with_reducible refine (?_ : (_ : Int) < _)); (first | assumption | omega | (simp only [ints_len] at *; omega) | (simp; omega))) | ((with_reducible refine (?_ : (_ : Nat) = _)); (first | (with_reducible rfl) | (simp; done) | (simp only [fr_len]) | (simp only [ints_len]) | omega)) | (refine And.intro ?_ ?_) | (intro h; first | (exact Bool.noConfusion h) | ((simp only [decide_eq_true_eq, decide_eq_false_iff_not, beq_iff_eq, bne_iff_ne, ne_eq, beq_eq_false_iff_ne, bne_eq_false_iff_eq, Bool.not_eq_true', Bool.not_eq_false', Bool.not_eq_true, Bool.not_eq_false, Int.not_le, Int.not_lt, Bool.and_eq_true, Bool.or_eq_true, Bool.or_eq_false_iff, Bool.and_eq_false_iff] at h); (try (exact Bool.noConfusion h))) | skip) | ((refine (?_ : ACall _ _ _ _ _ _ _)); first | ((apply acall (spec_PrimeForm _ _)); (focus (repeat (first | exact rfl | (refine And.intro ?_ ?_))))) | ((apply acall (impl_PrimeForm _ _)); (focus (repeat (first | exact rfl | (refine And.intro ?_ ?_))))) | ((apply acall (laws_eqForm _ _ _ _ _ _)); (focus (repeat (first | exact rfl | (refine And.intro ?_ ?_)))))) | ((with_reducible refine (?_ : chk _ _ = true)); kernel_rfl) | exact trivial)
  all_goals simp_all

theorem law_PrimeForm (d p : Int) (w : World) : Calls Try.prog 12 #[.int .i64 d, .int .i64 p] w fun e w' => e = .returned (.bool (true)) ∧ Below w.heap.size w w' := by
  exact law_of_afun (claw_PrimeForm d p) rfl w

end Go.Proofs.Ytnpmkomnafdgnaa
