/- HurwitzByConductors. -/
import Derived.Test.YtodpegnkengeiaaF10
import Derived.Test.YtodpegnkengeiaaF16
namespace Go.Proofs.Ytodpegnkengeiaa
set_option linter.unusedSimpArgs false
set_option linter.unusedVariables false
open Go.RowKit
set_option maxRecDepth 100000
set_option maxHeartbeats 2000000

def unt (d : Int) : Int := if d = -3 then 6 else if d = -4 then 4 else 2
theorem unt_ne (d : Int) : unt d ≠ 0 := by unfold unt; split <;> (try split) <;> omega
def hcC (n k : Int) : Bool := decide (n.tmod (k * k) = 0) && nd ((-n).tdiv (k * k))
noncomputable def hcS (n : Int) : Nat → Int
  | 0 => 0
  | k + 1 => if hcC n (k + 1) then wrap64 (hcS n k + wrap64 ((wrap64 (24 * (prm (allR ((-n).tdiv (((k : Int) + 1) * (k + 1))))).length)).tdiv (unt ((-n).tdiv (((k : Int) + 1) * (k + 1)))))) else hcS n k
def hcG (n : Int) : Bool := decide (1 ≤ n) && decide (n ≤ 2000)
noncomputable def hcR (n : Int) : Int := if hcG n then hcS n (rt n).toNat else 0

theorem spec_reUnits (d : Int) : AFun Try.prog 77 [] [I d] (I (unt d)) [] [] := by
  refine afun_intro fn77 (by simp) rfl (by repeat' (first | exact trivial | (simp; done) | refine ⟨?_, ?_⟩)) ?_
  unfold ac77
  repeat' (first | ((with_reducible refine (?_ : (_ : Bool) = _)); (with_reducible rfl)) | ((with_reducible refine (?_ : (_ : Nat × Nat) = _)); (with_reducible rfl)) | (with_reducible refine leafRI ?_) | (with_reducible refine leafRB ?_) | (with_reducible refine leafI ?_) | (with_reducible refine leafB ?_) | ((with_reducible refine (?_ : (_ : Int) = _)); (with_reducible rfl)) | ((with_reducible refine (?_ : (_ : List (List Value)) = _)); (with_reducible rfl)) | ((with_reducible refine (?_ : (_ : Int) ≠ 0)); (first | assumption | omega | (simp only [ints_len] at *; omega) | (simp; omega))) | ((with_reducible refine (?_ : (_ : Int) ≤ _)); (first | assumption | omega | (simp only [ints_len] at *; omega) | (simp; omega))) | ((with_reducible refine (?_ : (_ : Int) < _)); (first | assumption | omega | (simp only [ints_len] at *; omega) | (simp; omega))) | ((with_reducible refine (?_ : (_ : Nat) ≤ _)); (first | omega | (simp only [List.length_cons, List.length_nil]; omega) | (simp; omega))) | ((with_reducible refine (?_ : (_ : Nat) = _)); (first | (with_reducible rfl) | (simp; done) | (simp only [fr_len]) | (simp only [ints_len]) | omega | (simp [*]; done))) | (refine And.intro ?_ ?_) | (intro h; first | (exact Bool.noConfusion h) | ((simp only [decide_eq_true_eq, decide_eq_false_iff_not, beq_iff_eq, bne_iff_ne, ne_eq, beq_eq_false_iff_ne, bne_eq_false_iff_eq, Bool.not_eq_true', Bool.not_eq_false', Bool.not_eq_true, Bool.not_eq_false, Int.not_le, Int.not_lt, Bool.and_eq_true, Bool.or_eq_true, Bool.or_eq_false_iff, Bool.and_eq_false_iff] at h); (try (first | (exact Bool.noConfusion h) | (exact (h trivial).elim)))) | skip) | ((with_reducible refine (?_ : chk _ _ = true)); kernel_rfl) | exact trivial)
  all_goals (unfold unt; grind)

theorem impl_AutomorphCount (d : Int) (hd : nd d = true) : AFun Try.prog 134 [] [I d] (PI (unt d) true) [] [] := by
  have h1 : -2000 ≤ d ∧ d ≤ -3 ∧ d % 4 < 2 := by simp [nd] at hd; omega
  refine afun_intro fn134 (by simp) rfl (by repeat' (first | exact trivial | (simp; done) | refine ⟨?_, ?_⟩)) ?_
  unfold ac134
  repeat' (first | ((with_reducible refine (?_ : (_ : Bool) = _)); (with_reducible rfl)) | ((with_reducible refine (?_ : (_ : Nat × Nat) = _)); (with_reducible rfl)) | (with_reducible refine leafRI ?_) | (with_reducible refine leafRB ?_) | (with_reducible refine leafI ?_) | (with_reducible refine leafB ?_) | ((with_reducible refine (?_ : (_ : Int) = _)); (with_reducible rfl)) | ((with_reducible refine (?_ : (_ : List (List Value)) = _)); (with_reducible rfl)) | ((with_reducible refine (?_ : (_ : Int) ≠ 0)); (first | assumption | omega | (simp only [ints_len] at *; omega) | (simp; omega))) | ((with_reducible refine (?_ : (_ : Int) ≤ _)); (first | assumption | omega | (simp only [ints_len] at *; omega) | (simp; omega))) | ((with_reducible refine (?_ : (_ : Int) < _)); (first | assumption | omega | (simp only [ints_len] at *; omega) | (simp; omega))) | ((with_reducible refine (?_ : (_ : Nat) ≤ _)); (first | omega | (simp only [List.length_cons, List.length_nil]; omega) | (simp; omega))) | ((with_reducible refine (?_ : (_ : Nat) = _)); (first | (with_reducible rfl) | (simp; done) | (simp only [fr_len]) | (simp only [ints_len]) | omega | (simp [*]; done))) | (refine And.intro ?_ ?_) | (intro h; first | (exact Bool.noConfusion h) | ((simp only [decide_eq_true_eq, decide_eq_false_iff_not, beq_iff_eq, bne_iff_ne, ne_eq, beq_eq_false_iff_ne, bne_eq_false_iff_eq, Bool.not_eq_true', Bool.not_eq_false', Bool.not_eq_true, Bool.not_eq_false, Int.not_le, Int.not_lt, Bool.and_eq_true, Bool.or_eq_true, Bool.or_eq_false_iff, Bool.and_eq_false_iff] at h); (try (first | (exact Bool.noConfusion h) | (exact (h trivial).elim)))) | skip) | ((refine (?_ : ACall _ _ _ _ _ _ _)); first | ((apply acall (impl_isNegativeDisc _)); (focus (repeat' (first | exact rfl | (refine And.intro ?_ ?_) | (simp only [ints_len]; done) | (simp; done) | omega))))) | ((with_reducible refine (?_ : chk _ _ = true)); kernel_rfl) | exact trivial)
  all_goals ((try unfold unt); grind)

theorem impl_automorphCount (d : Int) (hd : nd d = true) : AFun Try.prog 80 [] [I d] (I (unt d)) [] [] := by
  refine afun_intro fn80 (by simp) rfl (by repeat' (first | exact trivial | (simp; done) | refine ⟨?_, ?_⟩)) ?_
  unfold ac80
  repeat' (first | ((with_reducible refine (?_ : (_ : Bool) = _)); (with_reducible rfl)) | ((with_reducible refine (?_ : (_ : Nat × Nat) = _)); (with_reducible rfl)) | (with_reducible refine leafRI ?_) | (with_reducible refine leafRB ?_) | (with_reducible refine leafI ?_) | (with_reducible refine leafB ?_) | ((with_reducible refine (?_ : (_ : Int) = _)); (with_reducible rfl)) | ((with_reducible refine (?_ : (_ : List (List Value)) = _)); (with_reducible rfl)) | ((with_reducible refine (?_ : (_ : Int) ≠ 0)); (first | assumption | omega | (simp only [ints_len] at *; omega) | (simp; omega))) | ((with_reducible refine (?_ : (_ : Int) ≤ _)); (first | assumption | omega | (simp only [ints_len] at *; omega) | (simp; omega))) | ((with_reducible refine (?_ : (_ : Int) < _)); (first | assumption | omega | (simp only [ints_len] at *; omega) | (simp; omega))) | ((with_reducible refine (?_ : (_ : Nat) ≤ _)); (first | omega | (simp only [List.length_cons, List.length_nil]; omega) | (simp; omega))) | ((with_reducible refine (?_ : (_ : Nat) = _)); (first | (with_reducible rfl) | (simp; done) | (simp only [fr_len]) | (simp only [ints_len]) | omega | (simp [*]; done))) | (refine And.intro ?_ ?_) | (intro h; first | (exact Bool.noConfusion h) | ((simp only [decide_eq_true_eq, decide_eq_false_iff_not, beq_iff_eq, bne_iff_ne, ne_eq, beq_eq_false_iff_ne, bne_eq_false_iff_eq, Bool.not_eq_true', Bool.not_eq_false', Bool.not_eq_true, Bool.not_eq_false, Int.not_le, Int.not_lt, Bool.and_eq_true, Bool.or_eq_true, Bool.or_eq_false_iff, Bool.and_eq_false_iff] at h); (try (first | (exact Bool.noConfusion h) | (exact (h trivial).elim)))) | skip) | ((refine (?_ : ACall _ _ _ _ _ _ _)); first | ((apply acall (impl_AutomorphCount _ ?_)); (focus (repeat' (first | exact rfl | (refine And.intro ?_ ?_) | (simp only [ints_len]; done) | (simp; done) | omega))))) | ((with_reducible refine (?_ : chk _ _ = true)); kernel_rfl) | exact trivial)
  all_goals assumption

theorem spec_HurwitzByConductors (n : Int) : AFun Try.prog 36 [] [I n] (PI (hcR n) (hcG n)) [] [] := by
  refine afun_intro fn36 (by simp) rfl (by repeat' (first | exact trivial | (simp; done) | refine ⟨?_, ?_⟩)) ?_
  unfold ac36
  repeat' (first | ((with_reducible refine (?_ : (_ : Bool) = _)); (with_reducible rfl)) | ((with_reducible refine (?_ : (_ : Nat × Nat) = _)); (with_reducible rfl)) | (with_reducible refine leafRI ?_) | (with_reducible refine leafRB ?_) | (with_reducible refine leafI ?_) | (with_reducible refine leafB ?_) | ((with_reducible refine (?_ : (_ : Int) = _)); (with_reducible rfl)) | ((with_reducible refine (?_ : (_ : List (List Value)) = _)); (with_reducible rfl)) | ((with_reducible refine (?_ : (_ : Int) ≠ 0)); (first | assumption | omega | (simp only [ints_len] at *; omega) | (simp; omega))) | ((with_reducible refine (?_ : (_ : Int) ≤ _)); (first | assumption | omega | (simp only [ints_len] at *; omega) | (simp; omega))) | ((with_reducible refine (?_ : (_ : Int) < _)); (first | assumption | omega | (simp only [ints_len] at *; omega) | (simp; omega))) | ((with_reducible refine (?_ : (_ : Nat) ≤ _)); (first | omega | (simp only [List.length_cons, List.length_nil]; omega) | (simp; omega))) | ((with_reducible refine (?_ : (_ : Nat) = _)); (first | (with_reducible rfl) | (simp; done) | (simp only [fr_len]) | (simp only [ints_len]) | omega | (simp [*]; done))) | (refine And.intro ?_ ?_) | (intro h; first | (exact Bool.noConfusion h) | ((simp only [decide_eq_true_eq, decide_eq_false_iff_not, beq_iff_eq, bne_iff_ne, ne_eq, beq_eq_false_iff_ne, bne_eq_false_iff_eq, Bool.not_eq_true', Bool.not_eq_false', Bool.not_eq_true, Bool.not_eq_false, Int.not_le, Int.not_lt, Bool.and_eq_true, Bool.or_eq_true, Bool.or_eq_false_iff, Bool.and_eq_false_iff] at h); (try (first | (exact Bool.noConfusion h) | (exact (h trivial).elim)))) | skip) | ((refine (?_ : ACall _ _ _ _ _ _ _)); first | ((apply acall (spec_l1In _ _ _)); (focus (repeat' (first | exact rfl | (refine And.intro ?_ ?_) | (simp only [ints_len]; done) | (simp; done) | omega))))) | ((with_reducible refine (?_ : chk _ _ = true)); kernel_rfl) | exact trivial)
  any_goals ((have hg : hcG n = false := by unfold hcG; grind); simp [hcR, hg]; done)
  have hg : hcG n = true := by unfold hcG; grind
  have hn : 1 ≤ n ∧ n ≤ 2000 := by simp [hcG] at hg; omega
  have wn : wrap64 (-n) = -n := wrap_small (by omega) (by omega)
  have hr := rt_spec (n := n) (by omega)
  have hr2 := sq_lt (a := rt n) (b := 45) (by omega) (by omega)
  refine loop_rule (σ := Int × Int) (fun s => [(4, I s.1), (5, I s.2)]) (fun _ => []) (fun s => 1 ≤ s.2 ∧ s.2 ≤ rt n + 1 ∧ s.1 = hcS n (s.2 - 1).toNat) (fun s => (100 - s.2).toNat) ((0, 1)) ?_ (by repeat' (first | exact trivial | exact rfl | (refine And.intro ?_ ?_))) trivial (fun s => ⟨rfl, rfl⟩) (fun s i h => by first | exact absurd h (Nat.not_lt_zero i) | (cases i with | zero => rfl | succ i => exact absurd (Nat.lt_of_succ_lt_succ h) (Nat.not_lt_zero i))) ?_
  · exact ⟨by dsimp only; omega, by dsimp only; omega, rfl⟩
  · rintro ⟨s, k⟩ ⟨g1, g2, g3⟩
    dsimp only at g1 g2 g3 ⊢
    have hk := le_rt (n := n) (y := k) (by omega) (by omega)
    have b1 := mul_bd (a := k) (b := k) (A := 45) (B := 45) (by omega) (by omega) (by omega) (by omega)
    have b2 : 1 ≤ k * k := by have := Int.mul_le_mul g1 g1 (by omega) (by omega); omega
    have w1 : wrap64 (k + 1) = k + 1 := wrap_small (by omega) (by omega)
    have w2 : wrap64 (k * k) = k * k := wrap_small (by omega) (by omega)
    have bq : -2000 ≤ (-n).tdiv (k * k) ∧ (-n).tdiv (k * k) ≤ 2000 := by
      have e1 : (-n).tdiv (k * k) = -(n.tdiv (k * k)) := Int.neg_tdiv _ _
      have e2 : n.tdiv (k * k) = n / (k * k) := tdiv_nonneg' (by omega)
      have e3 := Int.ediv_nonneg (a := n) (b := k * k) (by omega) (by omega)
      have e4 := Int.ediv_le_self (a := n) (k * k) (by omega)
      omega
    have w3 : wrap64 ((wrap64 (-n)).tdiv (wrap64 (k * k))) = (-n).tdiv (k * k) := by rw [wn, w2]; exact wrap_small (by omega) (by omega)
    have hu := unt_ne (wrap64 ((wrap64 (-n)).tdiv (wrap64 (k * k))))
    have st : (k + 1 - 1).toNat = (k - 1).toNat + 1 := by omega
    have kk : (((k - 1).toNat : Nat) : Int) + 1 = k := by omega
    have stepS : hcS n (k + 1 - 1).toNat = if hcC n k then wrap64 (hcS n (k - 1).toNat + wrap64 ((wrap64 (24 * (prm (allR ((-n).tdiv (k * k)))).length)).tdiv (unt ((-n).tdiv (k * k))))) else hcS n (k - 1).toNat := by rw [st, hcS, kk]
    repeat' (first | ((with_reducible refine (?_ : (_ : Bool) = _)); (with_reducible rfl)) | ((with_reducible refine (?_ : (_ : Nat × Nat) = _)); (with_reducible rfl)) | (with_reducible refine leafRI ?_) | (with_reducible refine leafRB ?_) | (with_reducible refine leafI ?_) | (with_reducible refine leafB ?_) | ((with_reducible refine (?_ : (_ : Int) = _)); (with_reducible rfl)) | ((with_reducible refine (?_ : (_ : List (List Value)) = _)); (with_reducible rfl)) | ((with_reducible refine (?_ : (_ : Int) ≠ 0)); (first | assumption | omega | (simp only [ints_len] at *; omega) | (simp; omega))) | ((with_reducible refine (?_ : (_ : Int) ≤ _)); (first | assumption | omega | (simp only [ints_len] at *; omega) | (simp; omega))) | ((with_reducible refine (?_ : (_ : Int) < _)); (first | assumption | omega | (simp only [ints_len] at *; omega) | (simp; omega))) | ((with_reducible refine (?_ : (_ : Nat) ≤ _)); (first | omega | (simp only [List.length_cons, List.length_nil]; omega) | (simp; omega))) | ((with_reducible refine (?_ : (_ : Nat) = _)); (first | (with_reducible rfl) | (simp; done) | (simp only [fr_len]) | (simp only [ints_len]) | omega | (simp [*]; done))) | (refine And.intro ?_ ?_) | (intro h; first | (exact Bool.noConfusion h) | ((simp only [decide_eq_true_eq, decide_eq_false_iff_not, beq_iff_eq, bne_iff_ne, ne_eq, beq_eq_false_iff_ne, bne_eq_false_iff_eq, Bool.not_eq_true', Bool.not_eq_false', Bool.not_eq_true, Bool.not_eq_false, Int.not_le, Int.not_lt, Bool.and_eq_true, Bool.or_eq_true, Bool.or_eq_false_iff, Bool.and_eq_false_iff] at h); (try (first | (exact Bool.noConfusion h) | (exact (h trivial).elim)))) | skip) | ((refine (?_ : ACall _ _ _ _ _ _ _)); first | ((apply acall (spec_reDisc _)); (focus (repeat' (first | exact rfl | (refine And.intro ?_ ?_) | (simp only [ints_len]; done) | (simp; done) | omega)))) | ((apply acall (spec_reList _ ?_ ?_)); (focus (repeat' (first | exact rfl | (refine And.intro ?_ ?_) | (simp only [ints_len]; done) | (simp; done) | omega)))) | ((apply acall (spec_reUnits _)); (focus (repeat' (first | exact rfl | (refine And.intro ?_ ?_) | (simp only [ints_len]; done) | (simp; done) | omega))))) | ((with_reducible refine (?_ : chk _ _ = true)); kernel_rfl) | exact trivial)
    all_goals (first | ((with_reducible refine (?_ : nd _ = true)); (simp only [w3] at h ⊢); (unfold nd); grind) | skip)
    · rename_i q1
      have hC : hcC n k = true := by unfold hcC nd; simp only [w3] at h; rw [w2] at q1; grind
      refine ⟨(_, _), ?_, ?_, none, And.intro rfl (And.intro (by repeat' (first | exact trivial | exact rfl | (refine And.intro ?_ ?_))) (by repeat' (first | exact trivial | exact rfl | (refine And.intro ?_ ?_))))⟩
      · dsimp only
        rw [w1, stepS, if_pos hC, ← g3, w3]
        exact ⟨by omega, by omega, rfl⟩
      · dsimp only; rw [w1]; omega
    · rename_i q1
      have hC : hcC n k = false := by unfold hcC nd; simp only [w3] at h; rw [w2] at q1; grind
      refine ⟨(_, _), ?_, ?_, none, And.intro rfl (And.intro (by repeat' (first | exact trivial | exact rfl | (refine And.intro ?_ ?_))) (by repeat' (first | exact trivial | exact rfl | (refine And.intro ?_ ?_))))⟩
      · dsimp only
        rw [w1, stepS, if_neg (by simp [hC]), ← g3]
        exact ⟨by omega, by omega, rfl⟩
      · dsimp only; rw [w1]; omega
    · rename_i q1
      have hC : hcC n k = false := by unfold hcC; rw [w2] at q1; simp [q1]
      refine ⟨(_, _), ?_, ?_, none, And.intro rfl (And.intro (by repeat' (first | exact trivial | exact rfl | (refine And.intro ?_ ?_))) (by repeat' (first | exact trivial | exact rfl | (refine And.intro ?_ ?_))))⟩
      · dsimp only
        rw [w1, stepS, if_neg (by simp [hC]), ← g3]
        exact ⟨by omega, by omega, rfl⟩
      · dsimp only; rw [w1]; omega
    · rw [hcR, hg, if_pos rfl, g3, show k - 1 = rt n by omega]
    · exact hg.symm
    all_goals (simp only [nd, w3] at *; first | omega | grind)

theorem impl_HurwitzByConductors (n : Int) : AFun Try.prog 37 [] [I n] (PI (hcR n) (hcG n)) [] [] := by
  refine afun_intro fn37 (by simp) rfl (by repeat' (first | exact trivial | (simp; done) | refine ⟨?_, ?_⟩)) ?_
  unfold ac37
  repeat' (first | ((with_reducible refine (?_ : (_ : Bool) = _)); (with_reducible rfl)) | ((with_reducible refine (?_ : (_ : Nat × Nat) = _)); (with_reducible rfl)) | (with_reducible refine leafRI ?_) | (with_reducible refine leafRB ?_) | (with_reducible refine leafI ?_) | (with_reducible refine leafB ?_) | ((with_reducible refine (?_ : (_ : Int) = _)); (with_reducible rfl)) | ((with_reducible refine (?_ : (_ : List (List Value)) = _)); (with_reducible rfl)) | ((with_reducible refine (?_ : (_ : Int) ≠ 0)); (first | assumption | omega | (simp only [ints_len] at *; omega) | (simp; omega))) | ((with_reducible refine (?_ : (_ : Int) ≤ _)); (first | assumption | omega | (simp only [ints_len] at *; omega) | (simp; omega))) | ((with_reducible refine (?_ : (_ : Int) < _)); (first | assumption | omega | (simp only [ints_len] at *; omega) | (simp; omega))) | ((with_reducible refine (?_ : (_ : Nat) ≤ _)); (first | omega | (simp only [List.length_cons, List.length_nil]; omega) | (simp; omega))) | ((with_reducible refine (?_ : (_ : Nat) = _)); (first | (with_reducible rfl) | (simp; done) | (simp only [fr_len]) | (simp only [ints_len]) | omega | (simp [*]; done))) | (refine And.intro ?_ ?_) | (intro h; first | (exact Bool.noConfusion h) | ((simp only [decide_eq_true_eq, decide_eq_false_iff_not, beq_iff_eq, bne_iff_ne, ne_eq, beq_eq_false_iff_ne, bne_eq_false_iff_eq, Bool.not_eq_true', Bool.not_eq_false', Bool.not_eq_true, Bool.not_eq_false, Int.not_le, Int.not_lt, Bool.and_eq_true, Bool.or_eq_true, Bool.or_eq_false_iff, Bool.and_eq_false_iff] at h); (try (first | (exact Bool.noConfusion h) | (exact (h trivial).elim)))) | skip) | ((refine (?_ : ACall _ _ _ _ _ _ _)); first | ((apply acall (impl_isNegativeDisc _)); (focus (repeat' (first | exact rfl | (refine And.intro ?_ ?_) | (simp only [ints_len]; done) | (simp; done) | omega))))) | ((with_reducible refine (?_ : chk _ _ = true)); kernel_rfl) | exact trivial)
  any_goals ((have hg : hcG n = false := by unfold hcG; grind); simp [hcR, hg]; done)
  have hg : hcG n = true := by unfold hcG; grind
  have hn : 1 ≤ n ∧ n ≤ 2000 := by simp [hcG] at hg; omega
  have wn : wrap64 (-n) = -n := wrap_small (by omega) (by omega)
  have hr := rt_spec (n := n) (by omega)
  have hr2 := sq_lt (a := rt n) (b := 45) (by omega) (by omega)
  refine loop_rule (σ := Int × Int) (fun s => [(4, I s.1), (5, I s.2)]) (fun _ => []) (fun s => 1 ≤ s.2 ∧ s.2 ≤ rt n + 1 ∧ s.1 = hcS n (s.2 - 1).toNat) (fun s => (100 - s.2).toNat) ((0, 1)) ?_ (by repeat' (first | exact trivial | exact rfl | (refine And.intro ?_ ?_))) trivial (fun s => ⟨rfl, rfl⟩) (fun s i h => by first | exact absurd h (Nat.not_lt_zero i) | (cases i with | zero => rfl | succ i => exact absurd (Nat.lt_of_succ_lt_succ h) (Nat.not_lt_zero i))) ?_
  · exact ⟨by dsimp only; omega, by dsimp only; omega, rfl⟩
  · rintro ⟨s, k⟩ ⟨g1, g2, g3⟩
    dsimp only at g1 g2 g3 ⊢
    have hk := le_rt (n := n) (y := k) (by omega) (by omega)
    have b1 := mul_bd (a := k) (b := k) (A := 45) (B := 45) (by omega) (by omega) (by omega) (by omega)
    have b2 : 1 ≤ k * k := by have := Int.mul_le_mul g1 g1 (by omega) (by omega); omega
    have w1 : wrap64 (k + 1) = k + 1 := wrap_small (by omega) (by omega)
    have w2 : wrap64 (k * k) = k * k := wrap_small (by omega) (by omega)
    have bq : -2000 ≤ (-n).tdiv (k * k) ∧ (-n).tdiv (k * k) ≤ 2000 := by
      have e1 : (-n).tdiv (k * k) = -(n.tdiv (k * k)) := Int.neg_tdiv _ _
      have e2 : n.tdiv (k * k) = n / (k * k) := tdiv_nonneg' (by omega)
      have e3 := Int.ediv_nonneg (a := n) (b := k * k) (by omega) (by omega)
      have e4 := Int.ediv_le_self (a := n) (k * k) (by omega)
      omega
    have w3 : wrap64 ((wrap64 (-n)).tdiv (wrap64 (k * k))) = (-n).tdiv (k * k) := by rw [wn, w2]; exact wrap_small (by omega) (by omega)
    have hu := unt_ne (wrap64 ((wrap64 (-n)).tdiv (wrap64 (k * k))))
    have st : (k + 1 - 1).toNat = (k - 1).toNat + 1 := by omega
    have kk : (((k - 1).toNat : Nat) : Int) + 1 = k := by omega
    have stepS : hcS n (k + 1 - 1).toNat = if hcC n k then wrap64 (hcS n (k - 1).toNat + wrap64 ((wrap64 (24 * (prm (allR ((-n).tdiv (k * k)))).length)).tdiv (unt ((-n).tdiv (k * k))))) else hcS n (k - 1).toNat := by rw [st, hcS, kk]
    repeat' (first | ((with_reducible refine (?_ : (_ : Bool) = _)); (with_reducible rfl)) | ((with_reducible refine (?_ : (_ : Nat × Nat) = _)); (with_reducible rfl)) | (with_reducible refine leafRI ?_) | (with_reducible refine leafRB ?_) | (with_reducible refine leafI ?_) | (with_reducible refine leafB ?_) | ((with_reducible refine (?_ : (_ : Int) = _)); (with_reducible rfl)) | ((with_reducible refine (?_ : (_ : List (List Value)) = _)); (with_reducible rfl)) | ((with_reducible refine (?_ : (_ : Int) ≠ 0)); (first | assumption | omega | (simp only [ints_len] at *; omega) | (simp; omega))) | ((with_reducible refine (?_ : (_ : Int) ≤ _)); (first | assumption | omega | (simp only [ints_len] at *; omega) | (simp; omega))) | ((with_reducible refine (?_ : (_ : Int) < _)); (first | assumption | omega | (simp only [ints_len] at *; omega) | (simp; omega))) | ((with_reducible refine (?_ : (_ : Nat) ≤ _)); (first | omega | (simp only [List.length_cons, List.length_nil]; omega) | (simp; omega))) | ((with_reducible refine (?_ : (_ : Nat) = _)); (first | (with_reducible rfl) | (simp; done) | (simp only [fr_len]) | (simp only [ints_len]) | omega | (simp [*]; done))) | (refine And.intro ?_ ?_) | (intro h; first | (exact Bool.noConfusion h) | ((simp only [decide_eq_true_eq, decide_eq_false_iff_not, beq_iff_eq, bne_iff_ne, ne_eq, beq_eq_false_iff_ne, bne_eq_false_iff_eq, Bool.not_eq_true', Bool.not_eq_false', Bool.not_eq_true, Bool.not_eq_false, Int.not_le, Int.not_lt, Bool.and_eq_true, Bool.or_eq_true, Bool.or_eq_false_iff, Bool.and_eq_false_iff] at h); (try (first | (exact Bool.noConfusion h) | (exact (h trivial).elim)))) | skip) | ((refine (?_ : ACall _ _ _ _ _ _ _)); first | ((apply acall (impl_isNegativeDisc _)); (focus (repeat' (first | exact rfl | (refine And.intro ?_ ?_) | (simp only [ints_len]; done) | (simp; done) | omega)))) | ((apply acall (impl_reducedForms _ ?_ ?_)); (focus (repeat' (first | exact rfl | (refine And.intro ?_ ?_) | (simp only [ints_len]; done) | (simp; done) | omega)))) | ((apply acall (impl_automorphCount _ ?_)); (focus (repeat' (first | exact rfl | (refine And.intro ?_ ?_) | (simp only [ints_len]; done) | (simp; done) | omega))))) | ((with_reducible refine (?_ : chk _ _ = true)); kernel_rfl) | exact trivial)
    all_goals (first | ((with_reducible refine (?_ : nd _ = true)); (simp only [w3] at h ⊢); (unfold nd); grind) | skip)
    · rename_i q1
      have hC : hcC n k = true := by unfold hcC nd; simp only [w3] at h; rw [w2] at q1; grind
      refine ⟨(_, _), ?_, ?_, none, And.intro rfl (And.intro (by repeat' (first | exact trivial | exact rfl | (refine And.intro ?_ ?_))) (by repeat' (first | exact trivial | exact rfl | (refine And.intro ?_ ?_))))⟩
      · dsimp only
        rw [w1, stepS, if_pos hC, ← g3, w3]
        exact ⟨by omega, by omega, rfl⟩
      · dsimp only; rw [w1]; omega
    · rename_i q1
      have hC : hcC n k = false := by unfold hcC nd; simp only [w3] at h; rw [w2] at q1; grind
      refine ⟨(_, _), ?_, ?_, none, And.intro rfl (And.intro (by repeat' (first | exact trivial | exact rfl | (refine And.intro ?_ ?_))) (by repeat' (first | exact trivial | exact rfl | (refine And.intro ?_ ?_))))⟩
      · dsimp only
        rw [w1, stepS, if_neg (by simp [hC]), ← g3]
        exact ⟨by omega, by omega, rfl⟩
      · dsimp only; rw [w1]; omega
    · rename_i q1
      have hC : hcC n k = false := by unfold hcC; rw [w2] at q1; simp [q1]
      refine ⟨(_, _), ?_, ?_, none, And.intro rfl (And.intro (by repeat' (first | exact trivial | exact rfl | (refine And.intro ?_ ?_))) (by repeat' (first | exact trivial | exact rfl | (refine And.intro ?_ ?_))))⟩
      · dsimp only
        rw [w1, stepS, if_neg (by simp [hC]), ← g3]
        exact ⟨by omega, by omega, rfl⟩
      · dsimp only; rw [w1]; omega
    · rw [hcR, hg, if_pos rfl, g3, show k - 1 = rt n by omega]
    · exact hg.symm
    all_goals (simp only [nd, w3] at *; first | omega | grind)


theorem claw_HurwitzByConductors (n : Int) : AFun Try.prog 9 [] [I n] (Bo true) [] [] := by
  refine afun_intro fn9 (by simp) rfl (by repeat' (first | exact trivial | (simp; done) | refine ⟨?_, ?_⟩)) ?_
  unfold ac9
  repeat' (first | ((with_reducible refine (?_ : (_ : Bool) = _)); (with_reducible rfl)) | ((with_reducible refine (?_ : (_ : Nat × Nat) = _)); (with_reducible rfl)) | (with_reducible refine leafRI ?_) | (with_reducible refine leafRB ?_) | (with_reducible refine leafI ?_) | (with_reducible refine leafB ?_) | ((with_reducible refine (?_ : (_ : Int) = _)); (with_reducible rfl)) | ((with_reducible refine (?_ : (_ : List (List Value)) = _)); (with_reducible rfl)) | ((with_reducible refine (?_ : (_ : Int) ≠ 0)); (first | assumption | omega | (simp only [ints_len] at *; omega) | (simp; omega))) | ((with_reducible refine (?_ : (_ : Int) ≤ _)); (first | assumption | omega | (simp only [ints_len] at *; omega) | (simp; omega))) | ((with_reducible refine (?_ : (_ : Int) < _)); (first | assumption | omega | (simp only [ints_len] at *; omega) | (simp; omega))) | ((with_reducible refine (?_ : (_ : Nat) ≤ _)); (first | omega | (simp only [List.length_cons, List.length_nil]; omega) | (simp; omega))) | ((with_reducible refine (?_ : (_ : Nat) = _)); (first | (with_reducible rfl) | (simp; done) | (simp only [fr_len]) | (simp only [ints_len]) | omega | (simp [*]; done))) | (refine And.intro ?_ ?_) | (intro h; first | (exact Bool.noConfusion h) | ((simp only [decide_eq_true_eq, decide_eq_false_iff_not, beq_iff_eq, bne_iff_ne, ne_eq, beq_eq_false_iff_ne, bne_eq_false_iff_eq, Bool.not_eq_true', Bool.not_eq_false', Bool.not_eq_true, Bool.not_eq_false, Int.not_le, Int.not_lt, Bool.and_eq_true, Bool.or_eq_true, Bool.or_eq_false_iff, Bool.and_eq_false_iff] at h); (try (first | (exact Bool.noConfusion h) | (exact (h trivial).elim)))) | skip) | ((refine (?_ : ACall _ _ _ _ _ _ _)); first | ((apply acall (spec_HurwitzByConductors _)); (focus (repeat' (first | exact rfl | (refine And.intro ?_ ?_) | (simp only [ints_len]; done) | (simp; done) | omega)))) | ((apply acall (impl_HurwitzByConductors _)); (focus (repeat' (first | exact rfl | (refine And.intro ?_ ?_) | (simp only [ints_len]; done) | (simp; done) | omega))))) | ((with_reducible refine (?_ : chk _ _ = true)); kernel_rfl) | exact trivial)
  all_goals simp_all

theorem law_HurwitzByConductors (n : Int) (w : World) : Calls Try.prog 9 #[.int .i64 n] w fun e w' => e = .returned (.bool (true)) ∧ Below w.heap.size w w' := by
  exact law_of_afun (claw_HurwitzByConductors n) rfl w

end Go.Proofs.Ytodpegnkengeiaa
