/- SolutionModulo. -/
import Derived.Test.YtfbadfnhnaaeeaaF3
namespace Go.Proofs.Ytfbadfnhnaaeeaa
set_option linter.unusedSimpArgs false
set_option linter.unusedVariables false
open Go.RowKit
set_option maxRecDepth 100000

theorem impl_IsPrime (n : Int) : AFun Try.prog 25 [] [I n] (Bo (num n && prime n)) [] [] := by
  have hn : num n = true → n ≤ 1000000 := fun h => (num_iff.1 h).2
  refine afun_intro fn25 rfl rfl (by repeat' (first | exact trivial | (simp; done) | (simp [*]; done) | refine ⟨?_, ?_⟩)) ?_
  unfold ac25
  repeat' (first | ((with_reducible refine (?_ : (_ : Bool) = _)); (with_reducible rfl)) | ((with_reducible refine (?_ : (_ : Nat × Nat) = _)); (with_reducible rfl)) | (with_reducible refine leafRI ?_) | (with_reducible refine leafRB ?_) | (with_reducible refine leafI ?_) | (with_reducible refine leafB ?_) | ((with_reducible refine (?_ : (_ : Int) = _)); (with_reducible rfl)) | ((with_reducible refine (?_ : (_ : List (List Value)) = _)); (with_reducible rfl)) | ((with_reducible refine (?_ : (_ : Int) ≠ 0)); (first | assumption | omega | (simp; done) | (simp only [ints_len] at *; omega) | (simp; omega))) | ((with_reducible refine (?_ : (_ : Int) ≤ _)); (first | assumption | omega | (simp; done) | (simp only [ints_len] at *; omega) | (simp; omega))) | ((with_reducible refine (?_ : (_ : Int) < _)); (first | assumption | omega | (simp; done) | (simp only [ints_len] at *; omega) | (simp; omega))) | ((with_reducible refine (?_ : (_ : Nat) ≤ _)); (first | omega | (simp only [List.length_cons, List.length_nil]; omega) | (simp [ints]; done) | (simp; omega))) | ((with_reducible refine (?_ : (_ : Nat) < _)); (first | omega | (simp only [List.length_cons, List.length_nil]; omega) | (simp [ints]; done) | (simp; omega))) | ((with_reducible refine (?_ : (_ : Nat) = _)); (first | (with_reducible rfl) | (simp; done) | (simp only [fr_len]) | (simp only [ints_len]) | omega | (simp [*]; done))) | (refine And.intro ?_ ?_) | (intro h; first | (exact Bool.noConfusion h) | ((simp only [decide_eq_true_eq, decide_eq_false_iff_not, beq_iff_eq, bne_iff_ne, ne_eq, beq_eq_false_iff_ne, bne_eq_false_iff_eq, Bool.not_eq_true', Bool.not_eq_false', Bool.not_eq_true, Bool.not_eq_false, Int.not_le, Int.not_lt, Bool.and_eq_true, Bool.or_eq_true, Bool.or_eq_false_iff, Bool.and_eq_false_iff] at h); (try (first | (exact Bool.noConfusion h) | (exact (h trivial).elim)))) | skip) | ((refine (?_ : ACall _ _ _ _ _ _ _)); first | ((apply acall (impl_areNumbers [n] (by simp))); (focus (repeat' (first | exact rfl | (refine And.intro ?_ ?_) | (simp only [ints_len]; done) | (simp; done) | omega)))) | ((apply acall (impl_isPrime _ ?_)); (focus (repeat' (first | exact rfl | (refine And.intro ?_ ?_) | (simp only [ints_len]; done) | (simp; done) | omega))))) | ((with_reducible refine (?_ : chk _ _ = true)); kernel_rfl) | ((with_reducible refine (?_ : (_ : IntKind) = _)); (with_reducible rfl)) | ((with_reducible refine (?_ : eqC (C.pvw _ _ _) (C.pvw _ _ _))); exact rfl) | ((with_reducible refine (?_ : eqC (C.pv (Value.int IntKind.u64 _)) _)); exact rfl) | ((with_reducible refine (?_ : eqC (C.pv (Value.string _)) _)); exact rfl) | exact trivial)
  any_goals (first | (with_reducible refine (?_ : (_ : Int) ≤ _)) | (with_reducible refine (?_ : (_ : Bool) = _))); simp_all

theorem spec_hiPlace (p : Int) : AFun Try.prog 9 [] [I p] (Bo (decide (p = 0) || (num p && prime p))) [] [] := by
  have hn : num p = true → p ≤ 1000000 := fun h => (num_iff.1 h).2
  refine afun_intro fn9 rfl rfl (by repeat' (first | exact trivial | (simp; done) | (simp [*]; done) | refine ⟨?_, ?_⟩)) ?_
  unfold ac9
  repeat' (first | ((with_reducible refine (?_ : (_ : Bool) = _)); (with_reducible rfl)) | ((with_reducible refine (?_ : (_ : Nat × Nat) = _)); (with_reducible rfl)) | (with_reducible refine leafRI ?_) | (with_reducible refine leafRB ?_) | (with_reducible refine leafI ?_) | (with_reducible refine leafB ?_) | ((with_reducible refine (?_ : (_ : Int) = _)); (with_reducible rfl)) | ((with_reducible refine (?_ : (_ : List (List Value)) = _)); (with_reducible rfl)) | ((with_reducible refine (?_ : (_ : Int) ≠ 0)); (first | assumption | omega | (simp; done) | (simp only [ints_len] at *; omega) | (simp; omega))) | ((with_reducible refine (?_ : (_ : Int) ≤ _)); (first | assumption | omega | (simp; done) | (simp only [ints_len] at *; omega) | (simp; omega))) | ((with_reducible refine (?_ : (_ : Int) < _)); (first | assumption | omega | (simp; done) | (simp only [ints_len] at *; omega) | (simp; omega))) | ((with_reducible refine (?_ : (_ : Nat) ≤ _)); (first | omega | (simp only [List.length_cons, List.length_nil]; omega) | (simp [ints]; done) | (simp; omega))) | ((with_reducible refine (?_ : (_ : Nat) < _)); (first | omega | (simp only [List.length_cons, List.length_nil]; omega) | (simp [ints]; done) | (simp; omega))) | ((with_reducible refine (?_ : (_ : Nat) = _)); (first | (with_reducible rfl) | (simp; done) | (simp only [fr_len]) | (simp only [ints_len]) | omega | (simp [*]; done))) | (refine And.intro ?_ ?_) | (intro h; first | (exact Bool.noConfusion h) | ((simp only [decide_eq_true_eq, decide_eq_false_iff_not, beq_iff_eq, bne_iff_ne, ne_eq, beq_eq_false_iff_ne, bne_eq_false_iff_eq, Bool.not_eq_true', Bool.not_eq_false', Bool.not_eq_true, Bool.not_eq_false, Int.not_le, Int.not_lt, Bool.and_eq_true, Bool.or_eq_true, Bool.or_eq_false_iff, Bool.and_eq_false_iff] at h); (try (first | (exact Bool.noConfusion h) | (exact (h trivial).elim)))) | skip) | ((refine (?_ : ACall _ _ _ _ _ _ _)); first | ((apply acall (spec_nuGood _)); (focus (repeat' (first | exact rfl | (refine And.intro ?_ ?_) | (simp only [ints_len]; done) | (simp; done) | omega)))) | ((apply acall (spec_nuPrime _ ?_)); (focus (repeat' (first | exact rfl | (refine And.intro ?_ ?_) | (simp only [ints_len]; done) | (simp; done) | omega))))) | ((with_reducible refine (?_ : chk _ _ = true)); kernel_rfl) | ((with_reducible refine (?_ : (_ : IntKind) = _)); (with_reducible rfl)) | ((with_reducible refine (?_ : eqC (C.pvw _ _ _) (C.pvw _ _ _))); exact rfl) | ((with_reducible refine (?_ : eqC (C.pv (Value.int IntKind.u64 _)) _)); exact rfl) | ((with_reducible refine (?_ : eqC (C.pv (Value.string _)) _)); exact rfl) | exact trivial)
  any_goals (first | (with_reducible refine (?_ : (_ : Int) ≤ _)) | (with_reducible refine (?_ : (_ : Bool) = _))); simp_all

/-- The first index at which P holds. -/
noncomputable def exI (P : Int → Prop) (N : Int) : Bool := @decide (∃ i, 0 ≤ i ∧ i < N ∧ P i) (Classical.propDecidable _)
noncomputable def firstI (P : Int → Prop) : Int := Classical.epsilon fun i => 0 ≤ i ∧ P i ∧ ∀ j, 0 ≤ j → j < i → ¬ P j
theorem firstI_eq {P : Int → Prop} {b : Int} (h0 : 0 ≤ b) (h1 : P b) (h2 : ∀ j, 0 ≤ j → j < b → ¬ P j) : firstI P = b := by
  have h := Classical.epsilon_spec (p := fun i => 0 ≤ i ∧ P i ∧ ∀ j, 0 ≤ j → j < i → ¬ P j) ⟨b, h0, h1, h2⟩
  change 0 ≤ firstI P ∧ P (firstI P) ∧ ∀ j, 0 ≤ j → j < firstI P → ¬ P j at h
  obtain ⟨k0, k1, k2⟩ := h
  rcases Int.lt_trichotomy (firstI P) b with hl | hl | hl
  · exact absurd k1 (h2 _ k0 hl)
  · exact hl
  · exact absurd h1 (k2 _ h0 hl)
theorem exI_yes {P : Int → Prop} {N i : Int} (h0 : 0 ≤ i) (h1 : i < N) (h2 : P i) : exI P N = true := by
  simp only [exI, decide_eq_true_eq]; exact ⟨i, h0, h1, h2⟩
theorem exI_no {P : Int → Prop} {N i : Int} (h1 : N ≤ i) (h2 : ∀ j, 0 ≤ j → j < i → ¬ P j) : exI P N = false := by
  simp only [exI, decide_eq_false_iff_not]
  rintro ⟨j, k1, k2, k3⟩
  exact h2 j k1 (by omega) k3

/-- The power, or 0 if it is no number. -/
def rpw (p k : Int) : Int := if p ^ k.toNat ≤ 1000000 then p ^ k.toNat else 0


/-- The form's value, as the machine takes it; a solution at index i. -/
def sv (a b x y z : Int) : Int := wrap64 (wrap64 (wrap64 (wrap64 (a * x) * x) + wrap64 (wrap64 (b * y) * y)) - wrap64 (z * z))
def hit3 (a b p q x y z : Int) : Prop := ¬ (x.tmod p = 0 ∧ y.tmod p = 0 ∧ z.tmod p = 0) ∧ (sv a b x y z).tmod q = 0
def hit (a b p q i : Int) : Prop := hit3 a b p q ((i.tdiv q).tdiv q) ((i.tdiv q).tmod q) (i.tmod q)
theorem hit_dig {a b p q x y z : Int} (hx : 0 ≤ x) (hy : 0 ≤ y) (hyp : y < q) (hz : 0 ≤ z) (hzp : z < q) : hit a b p q ((x * q + y) * q + z) ↔ hit3 a b p q x y z := by
  have h1 := dig (q := x * q + y) (p := q) (by have := Int.mul_nonneg hx (show 0 ≤ q by omega); omega) hz hzp
  have h2 := dig (p := q) hx hy hyp
  simp only [hit, h1.1, h1.2, h2.1, h2.2]
noncomputable def smG (a b p k : Int) : Bool := (num a && !decide (a = 0)) && (num b && !decide (b = 0)) && (num p && prime p) && decide (1 ≤ k) && decide (p ^ k.toNat ≤ 64)
noncomputable def smI (a b p k : Int) : Int := firstI (hit a b p (p ^ k.toNat))
noncomputable def smB (a b p k : Int) : Bool := smG a b p k && exI (hit a b p (p ^ k.toNat)) (p ^ k.toNat * p ^ k.toNat * p ^ k.toNat)
noncomputable def smX (a b p k : Int) : Int × Int × Int := if smB a b p k then (((smI a b p k).tdiv (p ^ k.toNat)).tdiv (p ^ k.toNat), ((smI a b p k).tdiv (p ^ k.toNat)).tmod (p ^ k.toNat), (smI a b p k).tmod (p ^ k.toNat)) else (0, 0, 0)
abbrev P4 (x y z : Int) (b : Bool) : V := .tup [(false, [cI x]), (false, [cI y]), (false, [cI z]), (false, [cB b])]

end Go.Proofs.Ytfbadfnhnaaeeaa
