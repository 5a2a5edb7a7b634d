/- PrimeForm. -/
import Derived.Test.YtdgfnmkiabjfnaaF8
namespace Go.Proofs.Ytdgfnmkiabjfnaa
set_option linter.unusedSimpArgs false
set_option linter.unusedVariables false
open Go.RowKit
set_option maxRecDepth 100000

theorem spec_foContent (a b c : Int) (h1 : -9223372036854775807 ≤ a) (h2 : a ≤ 9223372036854775807) (h3 : -9223372036854775807 ≤ b) (h4 : b ≤ 9223372036854775807) (h5 : -9223372036854775807 ≤ c) (h6 : c ≤ 9223372036854775807) : AFun Try.prog 61 [] [Fo a b c] (I (Int.gcd (Int.gcd a b) c)) [] [] := by
  have g1 : Int.gcd a b ≤ 9223372036854775807 := by
    by_cases h : a = 0
    · subst h; simp; omega
    · have := Int.gcd_le_natAbs_left b h; omega
  have g2 : Int.gcd b c ≤ 9223372036854775807 := by
    by_cases h : b = 0
    · subst h; simp; omega
    · have := Int.gcd_le_natAbs_left c h; omega
  refine afun_intro fn61 rfl rfl (by repeat' (first | exact trivial | (simp; done) | refine ⟨?_, ?_⟩)) ?_
  unfold ac61
  repeat' (first | ((with_reducible refine (?_ : (_ : Bool) = _)); (with_reducible rfl)) | ((with_reducible refine (?_ : (_ : Nat × Nat) = _)); (with_reducible rfl)) | (with_reducible refine leafRI ?_) | (with_reducible refine leafRB ?_) | (with_reducible refine leafI ?_) | (with_reducible refine leafB ?_) | ((with_reducible refine (?_ : (_ : Int) = _)); (with_reducible rfl)) | ((with_reducible refine (?_ : (_ : List (List Value)) = _)); (with_reducible rfl)) | ((with_reducible refine (?_ : (_ : Int) ≠ 0)); (first | assumption | omega | (simp; done) | (simp only [ints_len] at *; omega) | (simp; omega))) | ((with_reducible refine (?_ : (_ : Int) ≤ _)); (first | assumption | omega | (simp; done) | (simp only [ints_len] at *; omega) | (simp; omega))) | ((with_reducible refine (?_ : (_ : Int) < _)); (first | assumption | omega | (simp; done) | (simp only [ints_len] at *; omega) | (simp; omega))) | ((with_reducible refine (?_ : (_ : Nat) ≤ _)); (first | omega | (simp only [List.length_cons, List.length_nil]; omega) | (simp [ints]; done) | (simp; omega))) | ((with_reducible refine (?_ : (_ : Nat) < _)); (first | omega | (simp only [List.length_cons, List.length_nil]; omega) | (simp [ints]; done) | (simp; omega))) | ((with_reducible refine (?_ : (_ : Nat) = _)); (first | (with_reducible rfl) | (simp; done) | (simp only [fr_len]) | (simp only [ints_len]) | omega | (simp [*]; done))) | (refine And.intro ?_ ?_) | (intro h; first | (exact Bool.noConfusion h) | ((simp only [decide_eq_true_eq, decide_eq_false_iff_not, beq_iff_eq, bne_iff_ne, ne_eq, beq_eq_false_iff_ne, bne_eq_false_iff_eq, Bool.not_eq_true', Bool.not_eq_false', Bool.not_eq_true, Bool.not_eq_false, Int.not_le, Int.not_lt, Bool.and_eq_true, Bool.or_eq_true, Bool.or_eq_false_iff, Bool.and_eq_false_iff] at h); (try (first | (exact Bool.noConfusion h) | (exact (h trivial).elim)))) | skip) | ((refine (?_ : ACall _ _ _ _ _ _ _)); first | ((apply acall (spec_nuGcd _ _ ?_ ?_ ?_ ?_)); (focus (repeat' (first | exact rfl | (refine And.intro ?_ ?_) | (simp only [ints_len]; done) | (simp; done) | omega))))) | ((with_reducible refine (?_ : chk _ _ = true)); kernel_rfl) | ((with_reducible refine (?_ : (_ : IntKind) = _)); (with_reducible rfl)) | ((with_reducible refine (?_ : eqC (C.pvw _ _ _) (C.pvw _ _ _))); exact rfl) | ((with_reducible refine (?_ : eqC (C.pv (Value.int IntKind.u64 _)) _)); exact rfl) | exact trivial)
  all_goals (first | rfl | rw [Int.gcd_assoc])

theorem impl_content (a b c : Int) (h1 : -9223372036854775807 ≤ a) (h2 : a ≤ 9223372036854775807) (h3 : -9223372036854775807 ≤ b) (h4 : b ≤ 9223372036854775807) (h5 : -9223372036854775807 ≤ c) (h6 : c ≤ 9223372036854775807) : AFun Try.prog 49 [] [Fo a b c] (I (Int.gcd (Int.gcd a b) c)) [] [] := by
  have g1 : Int.gcd a b ≤ 9223372036854775807 := by
    by_cases h : a = 0
    · subst h; simp; omega
    · have := Int.gcd_le_natAbs_left b h; omega
  have g2 : Int.gcd b c ≤ 9223372036854775807 := by
    by_cases h : b = 0
    · subst h; simp; omega
    · have := Int.gcd_le_natAbs_left c h; omega
  refine afun_intro fn49 rfl rfl (by repeat' (first | exact trivial | (simp; done) | refine ⟨?_, ?_⟩)) ?_
  unfold ac49
  repeat' (first | ((with_reducible refine (?_ : (_ : Bool) = _)); (with_reducible rfl)) | ((with_reducible refine (?_ : (_ : Nat × Nat) = _)); (with_reducible rfl)) | (with_reducible refine leafRI ?_) | (with_reducible refine leafRB ?_) | (with_reducible refine leafI ?_) | (with_reducible refine leafB ?_) | ((with_reducible refine (?_ : (_ : Int) = _)); (with_reducible rfl)) | ((with_reducible refine (?_ : (_ : List (List Value)) = _)); (with_reducible rfl)) | ((with_reducible refine (?_ : (_ : Int) ≠ 0)); (first | assumption | omega | (simp; done) | (simp only [ints_len] at *; omega) | (simp; omega))) | ((with_reducible refine (?_ : (_ : Int) ≤ _)); (first | assumption | omega | (simp; done) | (simp only [ints_len] at *; omega) | (simp; omega))) | ((with_reducible refine (?_ : (_ : Int) < _)); (first | assumption | omega | (simp; done) | (simp only [ints_len] at *; omega) | (simp; omega))) | ((with_reducible refine (?_ : (_ : Nat) ≤ _)); (first | omega | (simp only [List.length_cons, List.length_nil]; omega) | (simp [ints]; done) | (simp; omega))) | ((with_reducible refine (?_ : (_ : Nat) < _)); (first | omega | (simp only [List.length_cons, List.length_nil]; omega) | (simp [ints]; done) | (simp; omega))) | ((with_reducible refine (?_ : (_ : Nat) = _)); (first | (with_reducible rfl) | (simp; done) | (simp only [fr_len]) | (simp only [ints_len]) | omega | (simp [*]; done))) | (refine And.intro ?_ ?_) | (intro h; first | (exact Bool.noConfusion h) | ((simp only [decide_eq_true_eq, decide_eq_false_iff_not, beq_iff_eq, bne_iff_ne, ne_eq, beq_eq_false_iff_ne, bne_eq_false_iff_eq, Bool.not_eq_true', Bool.not_eq_false', Bool.not_eq_true, Bool.not_eq_false, Int.not_le, Int.not_lt, Bool.and_eq_true, Bool.or_eq_true, Bool.or_eq_false_iff, Bool.and_eq_false_iff] at h); (try (first | (exact Bool.noConfusion h) | (exact (h trivial).elim)))) | skip) | ((refine (?_ : ACall _ _ _ _ _ _ _)); first | ((apply acall (impl_gcd _ _ ?_ ?_ ?_ ?_)); (focus (repeat' (first | exact rfl | (refine And.intro ?_ ?_) | (simp only [ints_len]; done) | (simp; done) | omega))))) | ((with_reducible refine (?_ : chk _ _ = true)); kernel_rfl) | ((with_reducible refine (?_ : (_ : IntKind) = _)); (with_reducible rfl)) | ((with_reducible refine (?_ : eqC (C.pvw _ _ _) (C.pvw _ _ _))); exact rfl) | ((with_reducible refine (?_ : eqC (C.pv (Value.int IntKind.u64 _)) _)); exact rfl) | exact trivial)
  all_goals (first | rfl | rw [Int.gcd_assoc])


/-- b is a middle coefficient for p. -/
def okB (d p b : Int) : Prop := (b * b - d) % (4 * p) = 0
noncomputable def exB (d p : Int) : Bool := @decide (∃ b, 0 ≤ b ∧ b ≤ p ∧ okB d p b) (Classical.propDecidable _)
noncomputable def fstB (d p : Int) : Int := Classical.epsilon fun b => 0 ≤ b ∧ okB d p b ∧ ∀ b', 0 ≤ b' → b' < b → ¬ okB d p b'
theorem fstB_eq {d p b : Int} (h0 : 0 ≤ b) (h1 : okB d p b) (h2 : ∀ b', 0 ≤ b' → b' < b → ¬ okB d p b') : fstB d p = b := by
  have h := Classical.epsilon_spec (p := fun b => 0 ≤ b ∧ okB d p b ∧ ∀ b', 0 ≤ b' → b' < b → ¬ okB d p b') ⟨b, h0, h1, h2⟩
  change 0 ≤ fstB d p ∧ okB d p (fstB d p) ∧ ∀ b', 0 ≤ b' → b' < fstB d p → ¬ okB d p b' at h
  obtain ⟨k0, k1, k2⟩ := h
  rcases Int.lt_trichotomy (fstB d p) b with hl | hl | hl
  · exact absurd k1 (h2 _ k0 hl)
  · exact hl
  · exact absurd h1 (k2 _ h0 hl)
/-- What the search yields: the form, and is it primitive. -/
noncomputable def pfF (d p : Int) : Int × Int × Int := if exB d p then (p, fstB d p, (fstB d p * fstB d p - d) / (4 * p)) else (0, 0, 0)
noncomputable def pfB (d p : Int) : Bool := exB d p && decide ((Int.gcd (Int.gcd p (fstB d p)) ((fstB d p * fstB d p - d) / (4 * p)) : Int) = 1)


noncomputable def pG (d p : Int) : Bool := decide (-2000 ≤ d) && decide (d ≤ -3) && decide (d % 4 < 2) && shp p && pfB d p
noncomputable def pF (d p : Int) : Int × Int × Int := if pG d p then pfF d p else (0, 0, 0)

end Go.Proofs.Ytdgfnmkiabjfnaa
