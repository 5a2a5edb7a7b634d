/- CountModulo. -/
import Derived.Test.YtnpmkomnafdgnaaF2
namespace Go.Proofs.Ytnpmkomnafdgnaa
set_option linter.unusedSimpArgs false
set_option linter.unusedVariables false
open Go.RowKit
set_option maxRecDepth 100000

/-! counting -/
theorem ediv_le' {i p : Int} (h : 0 ≤ i) (hp : 0 < p) : 0 ≤ i / p ∧ i / p ≤ i := ⟨Int.ediv_nonneg h (by omega), Int.ediv_le_self _ h⟩
def cnt (f : Int → Bool) : Nat → Nat
  | 0 => 0
  | n + 1 => cnt f n + if f n then 1 else 0
theorem cnt_le (f : Int → Bool) : ∀ n, cnt f n ≤ n
  | 0 => Nat.le_refl 0
  | n + 1 => by have := cnt_le f n; simp only [cnt]; split <;> omega
/-- The value of the ternary form, as the machine takes it. -/
def cv (a b c x y z : Int) : Int := wrap64 (wrap64 (wrap64 (wrap64 (a * x) * x) + wrap64 (wrap64 (b * y) * y)) + wrap64 (wrap64 (c * z) * z))
def cvz (a b c p i : Int) : Bool := (cv a b c (i.tdiv p |>.tdiv p) ((i.tdiv p).tmod p) (i.tmod p)).tmod p == 0

theorem impl_CountModulo (a b c p : Int) (_la : -9223372036854775808 ≤ a) (_ua : a ≤ 9223372036854775807) (_lb : -9223372036854775808 ≤ b) (_ub : b ≤ 9223372036854775807) (_lc : -9223372036854775808 ≤ c) (_uc : c ≤ 9223372036854775807) (_lp : -9223372036854775808 ≤ p) (_up : p ≤ 9223372036854775807) : AFun Try.prog 17 [] [Tri a b c, I p] (PI (if coef a && coef b && coef c && (decide (2 ≤ p) && decide (p ≤ 31)) && prime p then cnt (cvz a b c p) (p * p * p).toNat else 0) (coef a && coef b && coef c && (decide (2 ≤ p) && decide (p ≤ 31)) && prime p)) [] [] := by
  refine afun_intro fn17 (by simp) rfl (by repeat' (first | exact trivial | (simp; done) | refine ⟨?_, ?_⟩)) ?_
  unfold ac17
  repeat' (first | ((with_reducible refine (?_ : (_ : Bool) = _)); (with_reducible rfl)) | ((with_reducible refine (?_ : (_ : Nat × Nat) = _)); (with_reducible rfl)) | (with_reducible refine leafRI ?_) | (with_reducible refine leafRB ?_) | (with_reducible refine leafI ?_) | (with_reducible refine leafB ?_) | ((with_reducible refine (?_ : (_ : Int) = _)); (with_reducible rfl)) | ((with_reducible refine (?_ : (_ : List (List Value)) = _)); (with_reducible rfl)) | ((with_reducible refine (?_ : (_ : Int) ≠ 0)); (first | assumption | omega | (simp only [ints_len] at *; omega) | (simp; omega))) | ((with_reducible refine (?_ : (_ : Int) ≤ _)); (first | assumption | omega | (simp only [ints_len] at *; omega) | (simp; omega))) | ((with_reducible refine (?_ : (_ : Int) < _)); (first | assumption | omega | (simp only [ints_len] at *; omega) | (simp; omega))) | ((with_reducible refine (?_ : (_ : Nat) ≤ _)); (first | omega | (simp only [List.length_cons, List.length_nil]; omega) | (simp; omega))) | ((with_reducible refine (?_ : (_ : Nat) = _)); (first | (with_reducible rfl) | (simp; done) | (simp only [fr_len]) | (simp only [ints_len]) | omega | (simp [*]; done))) | (refine And.intro ?_ ?_) | (intro h; first | (exact Bool.noConfusion h) | ((simp only [decide_eq_true_eq, decide_eq_false_iff_not, beq_iff_eq, bne_iff_ne, ne_eq, beq_eq_false_iff_ne, bne_eq_false_iff_eq, Bool.not_eq_true', Bool.not_eq_false', Bool.not_eq_true, Bool.not_eq_false, Int.not_le, Int.not_lt, Bool.and_eq_true, Bool.or_eq_true, Bool.or_eq_false_iff, Bool.and_eq_false_iff] at h); (try (first | (exact Bool.noConfusion h) | (exact (h trivial).elim)))) | skip) | ((refine (?_ : ACall _ _ _ _ _ _ _)); first | ((apply acall (impl_isTriple _ _ _ ?_ ?_ ?_ ?_ ?_ ?_)); (focus (repeat' (first | exact rfl | (refine And.intro ?_ ?_) | (simp only [ints_len]; done) | (simp; done) | omega)))) | ((apply acall (impl_isPrime _ ?_)); (focus (repeat' (first | exact rfl | (refine And.intro ?_ ?_) | (simp only [ints_len]; done) | (simp; done) | omega))))) | ((with_reducible refine (?_ : chk _ _ = true)); kernel_rfl) | exact trivial)
  any_goals ((first | (with_reducible refine (?_ : (_ : Int) = _)) | (with_reducible refine (?_ : (_ : Bool) = _))); (focus (first | rfl | grind)))
  have hp : 2 ≤ p ∧ p ≤ 31 := ⟨by have := (prime_iff.1 ‹prime p = true›).1; omega, by omega⟩
  have hpp : p * p ≤ 961 ∧ 0 ≤ p * p := ⟨by have := Int.mul_le_mul hp.2 hp.2 (by omega) (by omega); omega, Int.mul_nonneg (by omega) (by omega)⟩
  have hppp : p * p * p ≤ 29791 ∧ 0 ≤ p * p * p := ⟨by have := Int.mul_le_mul hpp.1 hp.2 (by omega) (by omega); omega, Int.mul_nonneg (by omega) (by omega)⟩
  have w2 : wrap64 (p * p) = p * p := wrap_small (by omega) (by omega)
  have w3 : wrap64 (wrap64 (p * p) * p) = p * p * p := by rw [w2]; exact wrap_small (by omega) (by omega)
  refine loop_rule (σ := Int × Int) (fun s => [(6, I s.2), (7, I s.1)]) (fun s => [((2, 0), .bx [cI a, cI b, cI c])]) (fun s => 0 ≤ s.1 ∧ s.1 ≤ p * p * p ∧ s.2 = cnt (cvz a b c p) s.1.toNat) (fun s => (p * p * p - s.1).toNat) ((0, 0)) ?_ (by repeat' (first | exact trivial | exact rfl | (refine And.intro ?_ ?_))) (by repeat' (first | exact trivial | exact rfl | (refine And.intro ?_ ?_))) (fun s => ⟨rfl, rfl⟩) (fun s i h => by first | exact absurd h (Nat.not_lt_zero i) | (cases i with | zero => rfl | succ i => exact absurd (Nat.lt_of_succ_lt_succ h) (Nat.not_lt_zero i))) ?_
  · refine ⟨by dsimp only; omega, by dsimp only; omega, rfl⟩
  · rintro ⟨i, n⟩ ⟨g1, g2, g3⟩
    dsimp only at g1 g2 g3
    have q1 := ediv_le' g1 (show 0 < p by omega)
    have q2 := ediv_le' q1.1 (show 0 < p by omega)
    have t1 : wrap64 (i.tdiv p) = i.tdiv p := by rw [tdiv_nonneg' g1]; exact wrap_small (by omega) (by omega)
    have t2 : wrap64 ((i.tdiv p).tdiv p) = (i.tdiv p).tdiv p := by rw [tdiv_nonneg' g1, tdiv_nonneg' q1.1]; exact wrap_small (by omega) (by omega)
    have hc := cnt_le (cvz a b c p) i.toNat
    have hs : i.toNat + 1 = (i + 1).toNat := by omega
    repeat' (first | ((with_reducible refine (?_ : (_ : Bool) = _)); (with_reducible rfl)) | ((with_reducible refine (?_ : (_ : Nat × Nat) = _)); (with_reducible rfl)) | (with_reducible refine leafRI ?_) | (with_reducible refine leafRB ?_) | (with_reducible refine leafI ?_) | (with_reducible refine leafB ?_) | ((with_reducible refine (?_ : (_ : Int) = _)); (with_reducible rfl)) | ((with_reducible refine (?_ : (_ : List (List Value)) = _)); (with_reducible rfl)) | ((with_reducible refine (?_ : (_ : Int) ≠ 0)); (first | assumption | omega | (simp only [ints_len] at *; omega) | (simp; omega))) | ((with_reducible refine (?_ : (_ : Int) ≤ _)); (first | assumption | omega | (simp only [ints_len] at *; omega) | (simp; omega))) | ((with_reducible refine (?_ : (_ : Int) < _)); (first | assumption | omega | (simp only [ints_len] at *; omega) | (simp; omega))) | ((with_reducible refine (?_ : (_ : Nat) ≤ _)); (first | omega | (simp only [List.length_cons, List.length_nil]; omega) | (simp; omega))) | ((with_reducible refine (?_ : (_ : Nat) = _)); (first | (with_reducible rfl) | (simp; done) | (simp only [fr_len]) | (simp only [ints_len]) | omega | (simp [*]; done))) | (refine And.intro ?_ ?_) | (intro h; first | (exact Bool.noConfusion h) | ((simp only [decide_eq_true_eq, decide_eq_false_iff_not, beq_iff_eq, bne_iff_ne, ne_eq, beq_eq_false_iff_ne, bne_eq_false_iff_eq, Bool.not_eq_true', Bool.not_eq_false', Bool.not_eq_true, Bool.not_eq_false, Int.not_le, Int.not_lt, Bool.and_eq_true, Bool.or_eq_true, Bool.or_eq_false_iff, Bool.and_eq_false_iff] at h); (try (first | (exact Bool.noConfusion h) | (exact (h trivial).elim)))) | skip) | ((with_reducible refine (?_ : chk _ _ = true)); kernel_rfl) | exact trivial)
    · rw [t1, t2] at h
      rename_i k
      rw [w3] at k
      refine ⟨(wrap64 (i + 1), wrap64 (n + 1)), ?_, ?_, none, And.intro rfl (And.intro (by repeat' (first | exact trivial | exact rfl | (refine And.intro ?_ ?_))) (by repeat' (first | exact trivial | exact rfl | (refine And.intro ?_ ?_))))⟩
      · dsimp only
        rw [wrap_small (by omega) (by omega), wrap_small (by omega) (by omega)]
        refine ⟨by omega, by omega, ?_⟩
        rw [← hs, cnt, if_pos]
        · omega
        · rw [show ((i.toNat : Nat) : Int) = i by omega]
          simp [cvz, cv, h]
      · dsimp only
        rw [wrap_small (by omega) (by omega)]
        omega
    · rw [t1, t2] at h
      rename_i k
      rw [w3] at k
      refine ⟨(wrap64 (i + 1), n), ?_, ?_, none, And.intro rfl (And.intro (by repeat' (first | exact trivial | exact rfl | (refine And.intro ?_ ?_))) (by repeat' (first | exact trivial | exact rfl | (refine And.intro ?_ ?_))))⟩
      · dsimp only
        rw [wrap_small (by omega) (by omega)]
        refine ⟨by omega, by omega, ?_⟩
        rw [← hs, cnt, if_neg]
        · omega
        · rw [show ((i.toNat : Nat) : Int) = i by omega]
          simp [cvz, cv, h]
      · dsimp only
        rw [wrap_small (by omega) (by omega)]
        omega
    · rw [w3] at h
      rw [show i = p * p * p by omega] at g3
      rw [if_pos (by simp [*])]
      exact g3
    · simp [*]

theorem dig {q z p : Int} (hq : 0 ≤ q) (hz : 0 ≤ z) (hp : z < p) : (q * p + z).tdiv p = q ∧ (q * p + z).tmod p = z := by
  have h0 : 0 ≤ q * p + z := by have := Int.mul_nonneg hq (show 0 ≤ p by omega); omega
  rw [tdiv_nonneg' h0, tmod_nonneg' h0, Int.add_comm, Int.add_mul_ediv_right _ _ (by omega), Int.ediv_eq_zero_of_lt hz hp, Int.add_mul_emod_self_right, Int.emod_eq_of_lt hz hp]
  omega
theorem cvz_dig {a b c p x y z : Int} (hx : 0 ≤ x) (hy : 0 ≤ y) (hyp : y < p) (hz : 0 ≤ z) (hzp : z < p) : cvz a b c p ((x * p + y) * p + z) = ((cv a b c x y z).tmod p == 0) := by
  have h1 := dig (q := x * p + y) (by have := Int.mul_nonneg hx (show 0 ≤ p by omega); omega) hz hzp
  have h2 := dig hx hy hyp
  simp only [cvz, h1.1, h1.2, h2.1, h2.2]

theorem spec_CountModulo (a b c p : Int) : AFun Try.prog 15 [] [Tri a b c, I p] (PI (if coef a && coef b && coef c && (decide (2 ≤ p) && decide (p ≤ 31)) && prime p then cnt (cvz a b c p) (p * p * p).toNat else 0) (coef a && coef b && coef c && (decide (2 ≤ p) && decide (p ≤ 31)) && prime p)) [] [] := by
  refine afun_intro fn15 (by simp) rfl (by repeat' (first | exact trivial | (simp; done) | refine ⟨?_, ?_⟩)) ?_
  unfold ac15
  repeat' (first | ((with_reducible refine (?_ : (_ : Bool) = _)); (with_reducible rfl)) | ((with_reducible refine (?_ : (_ : Nat × Nat) = _)); (with_reducible rfl)) | (with_reducible refine leafRI ?_) | (with_reducible refine leafRB ?_) | (with_reducible refine leafI ?_) | (with_reducible refine leafB ?_) | ((with_reducible refine (?_ : (_ : Int) = _)); (with_reducible rfl)) | ((with_reducible refine (?_ : (_ : List (List Value)) = _)); (with_reducible rfl)) | ((with_reducible refine (?_ : (_ : Int) ≠ 0)); (first | assumption | omega | (simp only [ints_len] at *; omega) | (simp; omega))) | ((with_reducible refine (?_ : (_ : Int) ≤ _)); (first | assumption | omega | (simp only [ints_len] at *; omega) | (simp; omega))) | ((with_reducible refine (?_ : (_ : Int) < _)); (first | assumption | omega | (simp only [ints_len] at *; omega) | (simp; omega))) | ((with_reducible refine (?_ : (_ : Nat) ≤ _)); (first | omega | (simp only [List.length_cons, List.length_nil]; omega) | (simp; omega))) | ((with_reducible refine (?_ : (_ : Nat) = _)); (first | (with_reducible rfl) | (simp; done) | (simp only [fr_len]) | (simp only [ints_len]) | omega | (simp [*]; done))) | (refine And.intro ?_ ?_) | (intro h; first | (exact Bool.noConfusion h) | ((simp only [decide_eq_true_eq, decide_eq_false_iff_not, beq_iff_eq, bne_iff_ne, ne_eq, beq_eq_false_iff_ne, bne_eq_false_iff_eq, Bool.not_eq_true', Bool.not_eq_false', Bool.not_eq_true, Bool.not_eq_false, Int.not_le, Int.not_lt, Bool.and_eq_true, Bool.or_eq_true, Bool.or_eq_false_iff, Bool.and_eq_false_iff] at h); (try (first | (exact Bool.noConfusion h) | (exact (h trivial).elim)))) | skip) | ((refine (?_ : ACall _ _ _ _ _ _ _)); first | ((apply acall (spec_cnGood _ _ _)); (focus (repeat' (first | exact rfl | (refine And.intro ?_ ?_) | (simp only [ints_len]; done) | (simp; done) | omega)))) | ((apply acall (spec_l1In _ _ _)); (focus (repeat' (first | exact rfl | (refine And.intro ?_ ?_) | (simp only [ints_len]; done) | (simp; done) | omega)))) | ((apply acall (spec_nuPrime _ ?_)); (focus (repeat' (first | exact rfl | (refine And.intro ?_ ?_) | (simp only [ints_len]; done) | (simp; done) | omega))))) | ((with_reducible refine (?_ : chk _ _ = true)); kernel_rfl) | exact trivial)
  any_goals ((first | (with_reducible refine (?_ : (_ : Int) = _)) | (with_reducible refine (?_ : (_ : Bool) = _))); (focus (first | rfl | grind)))
  have hp : 2 ≤ p ∧ p ≤ 31 := by omega
  have hpp : p * p ≤ 961 ∧ 0 ≤ p * p := ⟨by have := Int.mul_le_mul hp.2 hp.2 (by omega) (by omega); omega, Int.mul_nonneg (by omega) (by omega)⟩
  have hppp : p * p * p ≤ 29791 ∧ 0 ≤ p * p * p := ⟨by have := Int.mul_le_mul hpp.1 hp.2 (by omega) (by omega); omega, Int.mul_nonneg (by omega) (by omega)⟩
  refine loop_rule (σ := Int × Int) (fun s => [(6, I s.2), (7, I s.1)]) (fun s => [((2, 0), .bx [cI a, cI b, cI c])]) (fun s => 0 ≤ s.1 ∧ s.1 ≤ p ∧ s.2 = cnt (cvz a b c p) (s.1 * p * p).toNat) (fun s => (p - s.1).toNat) ((0, 0)) ?_ (by repeat' (first | exact trivial | exact rfl | (refine And.intro ?_ ?_))) (by repeat' (first | exact trivial | exact rfl | (refine And.intro ?_ ?_))) (fun s => ⟨rfl, rfl⟩) (fun s i h => by first | exact absurd h (Nat.not_lt_zero i) | (cases i with | zero => rfl | succ i => exact absurd (Nat.lt_of_succ_lt_succ h) (Nat.not_lt_zero i))) ?_
  · refine ⟨by dsimp only; omega, by dsimp only; omega, by simp [cnt]⟩
  · rintro ⟨x, n⟩ ⟨g1, g2, g3⟩
    dsimp only at g1 g2 g3
    repeat' (first | ((with_reducible refine (?_ : (_ : Bool) = _)); (with_reducible rfl)) | ((with_reducible refine (?_ : (_ : Nat × Nat) = _)); (with_reducible rfl)) | (with_reducible refine leafRI ?_) | (with_reducible refine leafRB ?_) | (with_reducible refine leafI ?_) | (with_reducible refine leafB ?_) | ((with_reducible refine (?_ : (_ : Int) = _)); (with_reducible rfl)) | ((with_reducible refine (?_ : (_ : List (List Value)) = _)); (with_reducible rfl)) | ((with_reducible refine (?_ : (_ : Int) ≠ 0)); (first | assumption | omega | (simp only [ints_len] at *; omega) | (simp; omega))) | ((with_reducible refine (?_ : (_ : Int) ≤ _)); (first | assumption | omega | (simp only [ints_len] at *; omega) | (simp; omega))) | ((with_reducible refine (?_ : (_ : Int) < _)); (first | assumption | omega | (simp only [ints_len] at *; omega) | (simp; omega))) | ((with_reducible refine (?_ : (_ : Nat) ≤ _)); (first | omega | (simp only [List.length_cons, List.length_nil]; omega) | (simp; omega))) | ((with_reducible refine (?_ : (_ : Nat) = _)); (first | (with_reducible rfl) | (simp; done) | (simp only [fr_len]) | (simp only [ints_len]) | omega | (simp [*]; done))) | (refine And.intro ?_ ?_) | (intro h; first | (exact Bool.noConfusion h) | ((simp only [decide_eq_true_eq, decide_eq_false_iff_not, beq_iff_eq, bne_iff_ne, ne_eq, beq_eq_false_iff_ne, bne_eq_false_iff_eq, Bool.not_eq_true', Bool.not_eq_false', Bool.not_eq_true, Bool.not_eq_false, Int.not_le, Int.not_lt, Bool.and_eq_true, Bool.or_eq_true, Bool.or_eq_false_iff, Bool.and_eq_false_iff] at h); (try (first | (exact Bool.noConfusion h) | (exact (h trivial).elim)))) | skip) | ((with_reducible refine (?_ : chk _ _ = true)); kernel_rfl) | exact trivial)
    · refine loop_rule (σ := Int × Int) (fun s => [(6, I s.2), (8, I s.1)]) (fun s => [((2, 0), .bx [cI a, cI b, cI c])]) (fun s => 0 ≤ s.1 ∧ s.1 ≤ p ∧ s.2 = cnt (cvz a b c p) ((x * p + s.1) * p).toNat) (fun s => (p - s.1).toNat) ((0, n)) ?_ (by repeat' (first | exact trivial | exact rfl | (refine And.intro ?_ ?_))) (by repeat' (first | exact trivial | exact rfl | (refine And.intro ?_ ?_))) (fun s => ⟨rfl, rfl⟩) (fun s i h => by first | exact absurd h (Nat.not_lt_zero i) | (cases i with | zero => rfl | succ i => exact absurd (Nat.lt_of_succ_lt_succ h) (Nat.not_lt_zero i))) ?_
      · refine ⟨by dsimp only; omega, by dsimp only; omega, by simpa using g3⟩
      · rintro ⟨y, n⟩ ⟨e1, e2, e3⟩
        dsimp only at e1 e2 e3
        repeat' (first | ((with_reducible refine (?_ : (_ : Bool) = _)); (with_reducible rfl)) | ((with_reducible refine (?_ : (_ : Nat × Nat) = _)); (with_reducible rfl)) | (with_reducible refine leafRI ?_) | (with_reducible refine leafRB ?_) | (with_reducible refine leafI ?_) | (with_reducible refine leafB ?_) | ((with_reducible refine (?_ : (_ : Int) = _)); (with_reducible rfl)) | ((with_reducible refine (?_ : (_ : List (List Value)) = _)); (with_reducible rfl)) | ((with_reducible refine (?_ : (_ : Int) ≠ 0)); (first | assumption | omega | (simp only [ints_len] at *; omega) | (simp; omega))) | ((with_reducible refine (?_ : (_ : Int) ≤ _)); (first | assumption | omega | (simp only [ints_len] at *; omega) | (simp; omega))) | ((with_reducible refine (?_ : (_ : Int) < _)); (first | assumption | omega | (simp only [ints_len] at *; omega) | (simp; omega))) | ((with_reducible refine (?_ : (_ : Nat) ≤ _)); (first | omega | (simp only [List.length_cons, List.length_nil]; omega) | (simp; omega))) | ((with_reducible refine (?_ : (_ : Nat) = _)); (first | (with_reducible rfl) | (simp; done) | (simp only [fr_len]) | (simp only [ints_len]) | omega | (simp [*]; done))) | (refine And.intro ?_ ?_) | (intro h; first | (exact Bool.noConfusion h) | ((simp only [decide_eq_true_eq, decide_eq_false_iff_not, beq_iff_eq, bne_iff_ne, ne_eq, beq_eq_false_iff_ne, bne_eq_false_iff_eq, Bool.not_eq_true', Bool.not_eq_false', Bool.not_eq_true, Bool.not_eq_false, Int.not_le, Int.not_lt, Bool.and_eq_true, Bool.or_eq_true, Bool.or_eq_false_iff, Bool.and_eq_false_iff] at h); (try (first | (exact Bool.noConfusion h) | (exact (h trivial).elim)))) | skip) | ((with_reducible refine (?_ : chk _ _ = true)); kernel_rfl) | exact trivial)
        · refine loop_rule (σ := Int × Int) (fun s => [(6, I s.2), (9, I s.1)]) (fun s => [((2, 0), .bx [cI a, cI b, cI c])]) (fun s => 0 ≤ s.1 ∧ s.1 ≤ p ∧ s.2 = cnt (cvz a b c p) ((x * p + y) * p + s.1).toNat) (fun s => (p - s.1).toNat) ((0, n)) ?_ (by repeat' (first | exact trivial | exact rfl | (refine And.intro ?_ ?_))) (by repeat' (first | exact trivial | exact rfl | (refine And.intro ?_ ?_))) (fun s => ⟨rfl, rfl⟩) (fun s i h => by first | exact absurd h (Nat.not_lt_zero i) | (cases i with | zero => rfl | succ i => exact absurd (Nat.lt_of_succ_lt_succ h) (Nat.not_lt_zero i))) ?_
          · refine ⟨by dsimp only; omega, by dsimp only; omega, by simpa using e3⟩
          · rintro ⟨z, n⟩ ⟨d1, d2, d3⟩
            dsimp only at d1 d2 d3
            have xy : 0 ≤ x * p + y := by have := Int.mul_nonneg g1 (show 0 ≤ p by omega); omega
            have xyz : 0 ≤ (x * p + y) * p := Int.mul_nonneg xy (by omega)
            have b1 : x * p ≤ 31 * 31 := Int.mul_le_mul (by omega) hp.2 (by omega) (by omega)
            have b2 : (x * p + y) * p ≤ 992 * 31 := Int.mul_le_mul (by omega) hp.2 (by omega) (by omega)
            have hc := cnt_le (cvz a b c p) ((x * p + y) * p + z).toNat
            have hs : ((x * p + y) * p + (z + 1)).toNat = ((x * p + y) * p + z).toNat + 1 := by omega
            have hd := fun k1 k2 => cvz_dig (a := a) (b := b) (c := c) (p := p) g1 e1 k1 d1 k2
            repeat' (first | ((with_reducible refine (?_ : (_ : Bool) = _)); (with_reducible rfl)) | ((with_reducible refine (?_ : (_ : Nat × Nat) = _)); (with_reducible rfl)) | (with_reducible refine leafRI ?_) | (with_reducible refine leafRB ?_) | (with_reducible refine leafI ?_) | (with_reducible refine leafB ?_) | ((with_reducible refine (?_ : (_ : Int) = _)); (with_reducible rfl)) | ((with_reducible refine (?_ : (_ : List (List Value)) = _)); (with_reducible rfl)) | ((with_reducible refine (?_ : (_ : Int) ≠ 0)); (first | assumption | omega | (simp only [ints_len] at *; omega) | (simp; omega))) | ((with_reducible refine (?_ : (_ : Int) ≤ _)); (first | assumption | omega | (simp only [ints_len] at *; omega) | (simp; omega))) | ((with_reducible refine (?_ : (_ : Int) < _)); (first | assumption | omega | (simp only [ints_len] at *; omega) | (simp; omega))) | ((with_reducible refine (?_ : (_ : Nat) ≤ _)); (first | omega | (simp only [List.length_cons, List.length_nil]; omega) | (simp; omega))) | ((with_reducible refine (?_ : (_ : Nat) = _)); (first | (with_reducible rfl) | (simp; done) | (simp only [fr_len]) | (simp only [ints_len]) | omega | (simp [*]; done))) | (refine And.intro ?_ ?_) | (intro h; first | (exact Bool.noConfusion h) | ((simp only [decide_eq_true_eq, decide_eq_false_iff_not, beq_iff_eq, bne_iff_ne, ne_eq, beq_eq_false_iff_ne, bne_eq_false_iff_eq, Bool.not_eq_true', Bool.not_eq_false', Bool.not_eq_true, Bool.not_eq_false, Int.not_le, Int.not_lt, Bool.and_eq_true, Bool.or_eq_true, Bool.or_eq_false_iff, Bool.and_eq_false_iff] at h); (try (first | (exact Bool.noConfusion h) | (exact (h trivial).elim)))) | skip) | ((with_reducible refine (?_ : chk _ _ = true)); kernel_rfl) | exact trivial)
            · refine ⟨(wrap64 (z + 1), wrap64 (n + 1)), ?_, ?_, none, And.intro rfl (And.intro (by repeat' (first | exact trivial | exact rfl | (refine And.intro ?_ ?_))) (by repeat' (first | exact trivial | exact rfl | (refine And.intro ?_ ?_))))⟩
              · dsimp only
                rw [wrap_small (by omega) (by omega), wrap_small (by omega) (by omega)]
                refine ⟨by omega, by omega, ?_⟩
                rw [hs, cnt, if_pos]
                · omega
                · rw [Int.toNat_of_nonneg (by omega), hd (by omega) (by omega)]
                  simp [cv, h]
              · dsimp only
                rw [wrap_small (by omega) (by omega)]
                omega
            · refine ⟨(wrap64 (z + 1), n), ?_, ?_, none, And.intro rfl (And.intro (by repeat' (first | exact trivial | exact rfl | (refine And.intro ?_ ?_))) (by repeat' (first | exact trivial | exact rfl | (refine And.intro ?_ ?_))))⟩
              · dsimp only
                rw [wrap_small (by omega) (by omega)]
                refine ⟨by omega, by omega, ?_⟩
                rw [hs, cnt, if_neg]
                · omega
                · rw [Int.toNat_of_nonneg (by omega), hd (by omega) (by omega)]
                  simp [cv, h]
              · dsimp only
                rw [wrap_small (by omega) (by omega)]
                omega
            · refine ⟨(wrap64 (y + 1), n), ?_, ?_, none, And.intro rfl (And.intro (by repeat' (first | exact trivial | exact rfl | (refine And.intro ?_ ?_))) (by repeat' (first | exact trivial | exact rfl | (refine And.intro ?_ ?_))))⟩
              · dsimp only
                rw [wrap_small (by omega) (by omega)]
                refine ⟨by omega, by omega, ?_⟩
                rw [d3, show z = p by omega, show (x * p + (y + 1)) * p = (x * p + y) * p + p by rw [← Int.add_assoc, Int.add_mul _ 1]; omega]
              · dsimp only
                rw [wrap_small (by omega) (by omega)]
                omega
        · refine ⟨(wrap64 (x + 1), n), ?_, ?_, none, And.intro rfl (And.intro (by repeat' (first | exact trivial | exact rfl | (refine And.intro ?_ ?_))) (by repeat' (first | exact trivial | exact rfl | (refine And.intro ?_ ?_))))⟩
          · dsimp only
            rw [wrap_small (by omega) (by omega)]
            refine ⟨by omega, by omega, ?_⟩
            rw [e3, show y = p by omega, show (x + 1) * p * p = (x * p + p) * p by rw [Int.add_mul, Int.one_mul]]
          · dsimp only
            rw [wrap_small (by omega) (by omega)]
            omega
    · rw [if_pos (by simp [*])]
      rw [show x = p by omega] at g3
      exact g3
    · simp [*]

theorem laws_toTriple (a b c : Int) : AFun Try.prog 16 [] [Tri a b c] (Tri a b c) [] [] := by
  refine afun_intro fn16 (by simp) rfl (by repeat' (first | exact trivial | (simp; done) | refine ⟨?_, ?_⟩)) ?_
  unfold ac16
  repeat' (first | ((with_reducible refine (?_ : (_ : Bool) = _)); (with_reducible rfl)) | ((with_reducible refine (?_ : (_ : Nat × Nat) = _)); (with_reducible rfl)) | (with_reducible refine leafRI ?_) | (with_reducible refine leafRB ?_) | (with_reducible refine leafI ?_) | (with_reducible refine leafB ?_) | ((with_reducible refine (?_ : (_ : Int) = _)); (with_reducible rfl)) | ((with_reducible refine (?_ : (_ : List (List Value)) = _)); (with_reducible rfl)) | ((with_reducible refine (?_ : (_ : Int) ≠ 0)); (first | assumption | omega | (simp only [ints_len] at *; omega) | (simp; omega))) | ((with_reducible refine (?_ : (_ : Int) ≤ _)); (first | assumption | omega | (simp only [ints_len] at *; omega) | (simp; omega))) | ((with_reducible refine (?_ : (_ : Int) < _)); (first | assumption | omega | (simp only [ints_len] at *; omega) | (simp; omega))) | ((with_reducible refine (?_ : (_ : Nat) ≤ _)); (first | omega | (simp only [List.length_cons, List.length_nil]; omega) | (simp; omega))) | ((with_reducible refine (?_ : (_ : Nat) = _)); (first | (with_reducible rfl) | (simp; done) | (simp only [fr_len]) | (simp only [ints_len]) | omega | (simp [*]; done))) | (refine And.intro ?_ ?_) | (intro h; first | (exact Bool.noConfusion h) | ((simp only [decide_eq_true_eq, decide_eq_false_iff_not, beq_iff_eq, bne_iff_ne, ne_eq, beq_eq_false_iff_ne, bne_eq_false_iff_eq, Bool.not_eq_true', Bool.not_eq_false', Bool.not_eq_true, Bool.not_eq_false, Int.not_le, Int.not_lt, Bool.and_eq_true, Bool.or_eq_true, Bool.or_eq_false_iff, Bool.and_eq_false_iff] at h); (try (first | (exact Bool.noConfusion h) | (exact (h trivial).elim)))) | skip) | ((with_reducible refine (?_ : chk _ _ = true)); kernel_rfl) | exact trivial)
  all_goals rfl

theorem claw_CountModulo (a b c p : Int) (_la : -9223372036854775808 ≤ a) (_ua : a ≤ 9223372036854775807) (_lb : -9223372036854775808 ≤ b) (_ub : b ≤ 9223372036854775807) (_lc : -9223372036854775808 ≤ c) (_uc : c ≤ 9223372036854775807) (_lp : -9223372036854775808 ≤ p) (_up : p ≤ 9223372036854775807) : AFun Try.prog 3 [] [Tri a b c, I p] (Bo true) [] [] := by
  refine afun_intro fn3 (by simp) rfl (by repeat' (first | exact trivial | (simp; done) | refine ⟨?_, ?_⟩)) ?_
  unfold ac3
  repeat' (first | ((with_reducible refine (?_ : (_ : Bool) = _)); (with_reducible rfl)) | ((with_reducible refine (?_ : (_ : Nat × Nat) = _)); (with_reducible rfl)) | (with_reducible refine leafRI ?_) | (with_reducible refine leafRB ?_) | (with_reducible refine leafI ?_) | (with_reducible refine leafB ?_) | ((with_reducible refine (?_ : (_ : Int) = _)); (with_reducible rfl)) | ((with_reducible refine (?_ : (_ : List (List Value)) = _)); (with_reducible rfl)) | ((with_reducible refine (?_ : (_ : Int) ≠ 0)); (first | assumption | omega | (simp only [ints_len] at *; omega) | (simp; omega))) | ((with_reducible refine (?_ : (_ : Int) ≤ _)); (first | assumption | omega | (simp only [ints_len] at *; omega) | (simp; omega))) | ((with_reducible refine (?_ : (_ : Int) < _)); (first | assumption | omega | (simp only [ints_len] at *; omega) | (simp; omega))) | ((with_reducible refine (?_ : (_ : Nat) ≤ _)); (first | omega | (simp only [List.length_cons, List.length_nil]; omega) | (simp; omega))) | ((with_reducible refine (?_ : (_ : Nat) = _)); (first | (with_reducible rfl) | (simp; done) | (simp only [fr_len]) | (simp only [ints_len]) | omega | (simp [*]; done))) | (refine And.intro ?_ ?_) | (intro h; first | (exact Bool.noConfusion h) | ((simp only [decide_eq_true_eq, decide_eq_false_iff_not, beq_iff_eq, bne_iff_ne, ne_eq, beq_eq_false_iff_ne, bne_eq_false_iff_eq, Bool.not_eq_true', Bool.not_eq_false', Bool.not_eq_true, Bool.not_eq_false, Int.not_le, Int.not_lt, Bool.and_eq_true, Bool.or_eq_true, Bool.or_eq_false_iff, Bool.and_eq_false_iff] at h); (try (first | (exact Bool.noConfusion h) | (exact (h trivial).elim)))) | skip) | ((refine (?_ : ACall _ _ _ _ _ _ _)); first | ((apply acall (laws_toTriple _ _ _)); (focus (repeat' (first | exact rfl | (refine And.intro ?_ ?_) | (simp only [ints_len]; done) | (simp; done) | omega)))) | ((apply acall (spec_CountModulo _ _ _ _)); (focus (repeat' (first | exact rfl | (refine And.intro ?_ ?_) | (simp only [ints_len]; done) | (simp; done) | omega)))) | ((apply acall (impl_CountModulo _ _ _ _ ?_ ?_ ?_ ?_ ?_ ?_ ?_ ?_)); (focus (repeat' (first | exact rfl | (refine And.intro ?_ ?_) | (simp only [ints_len]; done) | (simp; done) | omega))))) | ((with_reducible refine (?_ : chk _ _ = true)); kernel_rfl) | exact trivial)
  all_goals simp_all

theorem law_CountModulo (a b c p : Int) (w : World) (_la : -9223372036854775808 ≤ a) (_ua : a ≤ 9223372036854775807) (_lb : -9223372036854775808 ≤ b) (_ub : b ≤ 9223372036854775807) (_lc : -9223372036854775808 ≤ c) (_uc : c ≤ 9223372036854775807) (_lp : -9223372036854775808 ≤ p) (_up : p ≤ 9223372036854775807) : Calls Try.prog 3 #[.agg #[.int .i64 a, .int .i64 b, .int .i64 c], .int .i64 p] w fun e w' => e = .returned (.bool (true)) ∧ Below w.heap.size w w' := by
  exact law_of_afun (claw_CountModulo a b c p _la _ua _lb _ub _lc _uc _lp _up) rfl w

end Go.Proofs.Ytnpmkomnafdgnaa
