/- HurwitzNumber. -/
import Derived.Test.YtodpegnkengeiaaF5
namespace Go.Proofs.Ytodpegnkengeiaa
set_option linter.unusedSimpArgs false
set_option linter.unusedVariables false
open Go.RowKit
set_option maxRecDepth 100000

/-- Twelve times a form's weight. -/
def wt (f : T3) : Int := if f.1 = f.2.2 ∧ f.2.1 = 0 then 6 else if f.1 = f.2.2 ∧ f.1 = f.2.1 then 4 else 12
def wsum (l : List T3) : Nat → Int
  | 0 => 0
  | k + 1 => wrap64 (wsum l k + match l[k]? with | some f => wt f | none => 0)
theorem ex_top (m : Int) (hm : m ≤ 2000) : ∀ f k : Nat, k + f = 27 → 3 * (k : Int) * k ≤ m → ∃ A : Int, 0 ≤ A ∧ A ≤ 27 ∧ 3 * A * A ≤ m ∧ m < 3 * (A + 1) * (A + 1)
  | 0, k, h, hk => by
    have : (k : Int) = 27 := by omega
    rw [this] at hk; omega
  | f + 1, k, h, hk => by
    by_cases c : 3 * ((k + 1 : Nat) : Int) * ((k + 1 : Nat) : Int) ≤ m
    · exact ex_top m hm f (k + 1) (by omega) c
    · exact ⟨k, by omega, by omega, hk, by rw [Int.natCast_add] at c; simp at c; omega⟩
theorem allR_len (d : Int) (h1 : -2000 ≤ d) (h2 : d ≤ 0) : (allR d).length ≤ 2000 := by
  obtain ⟨A, a1, a2, a3, a4⟩ := ex_top (-d) (by omega) 27 0 rfl (by simp; omega)
  rw [allR, topA_eq a1 a3 a4]
  have := rowsA_len d A.toNat (by omega)
  omega
noncomputable def tw (n : Int) : Int := if n = 0 then -1 else if decide (-2000 ≤ -n) && decide (-n ≤ -3) && decide (-n % 4 < 2) then wsum (allR (-n)) (allR (-n)).length else 0

theorem spec_huTwelve (n : Int) (h1 : 0 ≤ n) (h2 : n ≤ 2000) : AFun Try.prog 72 [] [I n] (I (tw n)) [] [] := by
  have wn : wrap64 (-n) = -n := wrap_small (by omega) (by omega)
  refine afun_intro fn72 (by simp) rfl (by repeat' (first | exact trivial | (simp; done) | refine ⟨?_, ?_⟩)) ?_
  unfold ac72
  repeat' (first | ((with_reducible refine (?_ : (_ : Bool) = _)); (with_reducible rfl)) | ((with_reducible refine (?_ : (_ : Nat × Nat) = _)); (with_reducible rfl)) | (with_reducible refine leafRI ?_) | (with_reducible refine leafRB ?_) | (with_reducible refine leafI ?_) | (with_reducible refine leafB ?_) | ((with_reducible refine (?_ : (_ : Int) = _)); (with_reducible rfl)) | ((with_reducible refine (?_ : (_ : List (List Value)) = _)); (with_reducible rfl)) | ((with_reducible refine (?_ : (_ : Int) ≠ 0)); (first | assumption | omega | (simp only [ints_len] at *; omega) | (simp; omega))) | ((with_reducible refine (?_ : (_ : Int) ≤ _)); (first | assumption | omega | (simp only [ints_len] at *; omega) | (simp; omega))) | ((with_reducible refine (?_ : (_ : Int) < _)); (first | assumption | omega | (simp only [ints_len] at *; omega) | (simp; omega))) | ((with_reducible refine (?_ : (_ : Nat) ≤ _)); (first | omega | (simp only [List.length_cons, List.length_nil]; omega) | (simp; omega))) | ((with_reducible refine (?_ : (_ : Nat) = _)); (first | (with_reducible rfl) | (simp; done) | (simp only [fr_len]) | (simp only [ints_len]) | omega | (simp [*]; done))) | (refine And.intro ?_ ?_) | (intro h; first | (exact Bool.noConfusion h) | ((simp only [decide_eq_true_eq, decide_eq_false_iff_not, beq_iff_eq, bne_iff_ne, ne_eq, beq_eq_false_iff_ne, bne_eq_false_iff_eq, Bool.not_eq_true', Bool.not_eq_false', Bool.not_eq_true, Bool.not_eq_false, Int.not_le, Int.not_lt, Bool.and_eq_true, Bool.or_eq_true, Bool.or_eq_false_iff, Bool.and_eq_false_iff] at h); (try (first | (exact Bool.noConfusion h) | (exact (h trivial).elim)))) | skip) | ((refine (?_ : ACall _ _ _ _ _ _ _)); first | ((apply acall (spec_reDisc _)); (focus (repeat' (first | exact rfl | (refine And.intro ?_ ?_) | (simp only [ints_len]; done) | (simp; done) | omega)))) | ((apply acall (spec_reAll _ ?_ ?_)); (focus (repeat' (first | exact rfl | (refine And.intro ?_ ?_) | (simp only [ints_len]; done) | (simp; done) | omega))))) | ((with_reducible refine (?_ : chk _ _ = true)); kernel_rfl) | exact trivial)
  · simp [tw, h]
  · simp only [wn] at *
    rw [tw, if_neg (by assumption), if_neg (by simp; omega)]
  have hl := allR_len (-n) (by omega) (by omega)
  simp only [wn] at *
  refine loop_rule (σ := Int × Int) (fun s => [(3, I s.1), (16, I s.2)]) (fun s => [((14, 0), .fl 26 3 (fr (allR (-n))))]) (fun s => 0 ≤ s.2 ∧ s.2 ≤ (allR (-n)).length ∧ s.1 = wsum (allR (-n)) s.2.toNat) (fun s => ((allR (-n)).length - s.2).toNat) ((0, 0)) ?_ (by repeat' (first | exact trivial | exact rfl | (refine And.intro ?_ ?_))) (by repeat' (first | exact trivial | exact rfl | (refine And.intro ?_ ?_))) (fun s => ⟨rfl, rfl⟩) (fun s i h => by first | exact absurd h (Nat.not_lt_zero i) | (cases i with | zero => rfl | succ i => exact absurd (Nat.lt_of_succ_lt_succ h) (Nat.not_lt_zero i))) ?_
  · exact ⟨by dsimp only; omega, by dsimp only; omega, rfl⟩
  · rintro ⟨s, i⟩ ⟨g1, g2, g3⟩
    dsimp only at g1 g2 g3
    have hs : (i + 1).toNat = i.toNat + 1 := by omega
    have hend : ¬ i < (allR (-n)).length → s = tw n := fun hi => by
      rw [tw, if_neg (by assumption), if_pos (by simp; omega), g3, show i.toNat = (allR (-n)).length by omega]
    repeat' (first | ((with_reducible refine (?_ : (_ : Bool) = _)); (with_reducible rfl)) | ((with_reducible refine (?_ : (_ : Nat × Nat) = _)); (with_reducible rfl)) | (with_reducible refine leafRI ?_) | (with_reducible refine leafRB ?_) | (with_reducible refine leafI ?_) | (with_reducible refine leafB ?_) | ((with_reducible refine (?_ : (_ : Int) = _)); (with_reducible rfl)) | ((with_reducible refine (?_ : (_ : List (List Value)) = _)); (with_reducible rfl)) | ((with_reducible refine (?_ : (_ : Int) ≠ 0)); (first | assumption | omega | (simp only [ints_len] at *; omega) | (simp; omega))) | ((with_reducible refine (?_ : (_ : Int) ≤ _)); (first | assumption | omega | (simp only [ints_len] at *; omega) | (simp; omega))) | ((with_reducible refine (?_ : (_ : Int) < _)); (first | assumption | omega | (simp only [ints_len] at *; omega) | (simp; omega))) | ((with_reducible refine (?_ : (_ : Nat) ≤ _)); (first | omega | (simp only [List.length_cons, List.length_nil]; omega) | (simp; omega))) | ((with_reducible refine (?_ : (_ : Nat) = _)); (first | (with_reducible rfl) | (simp; done) | (simp only [fr_len]) | (simp only [ints_len]) | omega | (simp [*]; done))) | ((with_reducible refine fr_at ?_ ?_); (focus (constructor <;> (first | omega | (simp only [fr_len] at *; omega)))); intro n hn) | (refine And.intro ?_ ?_) | (intro h; first | (exact Bool.noConfusion h) | ((simp only [decide_eq_true_eq, decide_eq_false_iff_not, beq_iff_eq, bne_iff_ne, ne_eq, beq_eq_false_iff_ne, bne_eq_false_iff_eq, Bool.not_eq_true', Bool.not_eq_false', Bool.not_eq_true, Bool.not_eq_false, Int.not_le, Int.not_lt, Bool.and_eq_true, Bool.or_eq_true, Bool.or_eq_false_iff, Bool.and_eq_false_iff] at h); (try (first | (exact Bool.noConfusion h) | (exact (h trivial).elim)))) | skip) | ((with_reducible refine (?_ : chk _ _ = true)); kernel_rfl) | exact trivial)
    any_goals (first | ((refine ⟨(wrap64 (s + 6), wrap64 (i + 1)), ?_, ?_, none, And.intro rfl (And.intro ?_ ?_)⟩); (rotate_left 2); (focus ((repeat' (first | exact trivial | exact rfl | (refine And.intro ?_ ?_))); done)); (focus ((repeat' (first | exact trivial | exact rfl | (refine And.intro ?_ ?_))); done))) | ((refine ⟨(wrap64 (s + 4), wrap64 (i + 1)), ?_, ?_, none, And.intro rfl (And.intro ?_ ?_)⟩); (rotate_left 2); (focus ((repeat' (first | exact trivial | exact rfl | (refine And.intro ?_ ?_))); done)); (focus ((repeat' (first | exact trivial | exact rfl | (refine And.intro ?_ ?_))); done))) | ((refine ⟨(wrap64 (s + 12), wrap64 (i + 1)), ?_, ?_, none, And.intro rfl (And.intro ?_ ?_)⟩); (rotate_left 2); (focus ((repeat' (first | exact trivial | exact rfl | (refine And.intro ?_ ?_))); done)); (focus ((repeat' (first | exact trivial | exact rfl | (refine And.intro ?_ ?_))); done))) | (exact hend (by omega)))
    any_goals (with_reducible refine (?_ : (_ : Nat) < _)); dsimp only; rw [wrap_small (n := i + 1) (by omega) (by omega)]; omega
    all_goals dsimp only at hn ⊢
    all_goals rw [wrap_small (n := i + 1) (by omega) (by omega), hs, wsum, hn, g3]
    all_goals refine ⟨by omega, by omega, ?_⟩
    all_goals (dsimp only; congr 2; unfold wt; grind)

theorem impl_hurwitz (n : Int) (h1 : 0 ≤ n) (h2 : n ≤ 2000) : AFun Try.prog 73 [] [I n] (I (tw n)) [] [] := by
  have wn : wrap64 (-n) = -n := wrap_small (by omega) (by omega)
  refine afun_intro fn73 (by simp) rfl (by repeat' (first | exact trivial | (simp; done) | refine ⟨?_, ?_⟩)) ?_
  unfold ac73
  repeat' (first | ((with_reducible refine (?_ : (_ : Bool) = _)); (with_reducible rfl)) | ((with_reducible refine (?_ : (_ : Nat × Nat) = _)); (with_reducible rfl)) | (with_reducible refine leafRI ?_) | (with_reducible refine leafRB ?_) | (with_reducible refine leafI ?_) | (with_reducible refine leafB ?_) | ((with_reducible refine (?_ : (_ : Int) = _)); (with_reducible rfl)) | ((with_reducible refine (?_ : (_ : List (List Value)) = _)); (with_reducible rfl)) | ((with_reducible refine (?_ : (_ : Int) ≠ 0)); (first | assumption | omega | (simp only [ints_len] at *; omega) | (simp; omega))) | ((with_reducible refine (?_ : (_ : Int) ≤ _)); (first | assumption | omega | (simp only [ints_len] at *; omega) | (simp; omega))) | ((with_reducible refine (?_ : (_ : Int) < _)); (first | assumption | omega | (simp only [ints_len] at *; omega) | (simp; omega))) | ((with_reducible refine (?_ : (_ : Nat) ≤ _)); (first | omega | (simp only [List.length_cons, List.length_nil]; omega) | (simp; omega))) | ((with_reducible refine (?_ : (_ : Nat) = _)); (first | (with_reducible rfl) | (simp; done) | (simp only [fr_len]) | (simp only [ints_len]) | omega | (simp [*]; done))) | (refine And.intro ?_ ?_) | (intro h; first | (exact Bool.noConfusion h) | ((simp only [decide_eq_true_eq, decide_eq_false_iff_not, beq_iff_eq, bne_iff_ne, ne_eq, beq_eq_false_iff_ne, bne_eq_false_iff_eq, Bool.not_eq_true', Bool.not_eq_false', Bool.not_eq_true, Bool.not_eq_false, Int.not_le, Int.not_lt, Bool.and_eq_true, Bool.or_eq_true, Bool.or_eq_false_iff, Bool.and_eq_false_iff] at h); (try (first | (exact Bool.noConfusion h) | (exact (h trivial).elim)))) | skip) | ((refine (?_ : ACall _ _ _ _ _ _ _)); first | ((apply acall (impl_isNegativeDisc _)); (focus (repeat' (first | exact rfl | (refine And.intro ?_ ?_) | (simp only [ints_len]; done) | (simp; done) | omega)))) | ((apply acall (impl_allReduced _ ?_ ?_)); (focus (repeat' (first | exact rfl | (refine And.intro ?_ ?_) | (simp only [ints_len]; done) | (simp; done) | omega))))) | ((with_reducible refine (?_ : chk _ _ = true)); kernel_rfl) | exact trivial)
  · simp [tw, h]
  · simp only [wn] at *
    rw [tw, if_neg (by assumption), if_neg (by simp; omega)]
  have hl := allR_len (-n) (by omega) (by omega)
  simp only [wn] at *
  refine loop_rule (σ := Int × Int) (fun s => [(3, I s.1), (16, I s.2)]) (fun s => [((14, 0), .fl 26 3 (fr (allR (-n))))]) (fun s => 0 ≤ s.2 ∧ s.2 ≤ (allR (-n)).length ∧ s.1 = wsum (allR (-n)) s.2.toNat) (fun s => ((allR (-n)).length - s.2).toNat) ((0, 0)) ?_ (by repeat' (first | exact trivial | exact rfl | (refine And.intro ?_ ?_))) (by repeat' (first | exact trivial | exact rfl | (refine And.intro ?_ ?_))) (fun s => ⟨rfl, rfl⟩) (fun s i h => by first | exact absurd h (Nat.not_lt_zero i) | (cases i with | zero => rfl | succ i => exact absurd (Nat.lt_of_succ_lt_succ h) (Nat.not_lt_zero i))) ?_
  · exact ⟨by dsimp only; omega, by dsimp only; omega, rfl⟩
  · rintro ⟨s, i⟩ ⟨g1, g2, g3⟩
    dsimp only at g1 g2 g3
    have hs : (i + 1).toNat = i.toNat + 1 := by omega
    have hend : ¬ i < (allR (-n)).length → s = tw n := fun hi => by
      rw [tw, if_neg (by assumption), if_pos (by simp; omega), g3, show i.toNat = (allR (-n)).length by omega]
    repeat' (first | ((with_reducible refine (?_ : (_ : Bool) = _)); (with_reducible rfl)) | ((with_reducible refine (?_ : (_ : Nat × Nat) = _)); (with_reducible rfl)) | (with_reducible refine leafRI ?_) | (with_reducible refine leafRB ?_) | (with_reducible refine leafI ?_) | (with_reducible refine leafB ?_) | ((with_reducible refine (?_ : (_ : Int) = _)); (with_reducible rfl)) | ((with_reducible refine (?_ : (_ : List (List Value)) = _)); (with_reducible rfl)) | ((with_reducible refine (?_ : (_ : Int) ≠ 0)); (first | assumption | omega | (simp only [ints_len] at *; omega) | (simp; omega))) | ((with_reducible refine (?_ : (_ : Int) ≤ _)); (first | assumption | omega | (simp only [ints_len] at *; omega) | (simp; omega))) | ((with_reducible refine (?_ : (_ : Int) < _)); (first | assumption | omega | (simp only [ints_len] at *; omega) | (simp; omega))) | ((with_reducible refine (?_ : (_ : Nat) ≤ _)); (first | omega | (simp only [List.length_cons, List.length_nil]; omega) | (simp; omega))) | ((with_reducible refine (?_ : (_ : Nat) = _)); (first | (with_reducible rfl) | (simp; done) | (simp only [fr_len]) | (simp only [ints_len]) | omega | (simp [*]; done))) | ((with_reducible refine fr_at ?_ ?_); (focus (constructor <;> (first | omega | (simp only [fr_len] at *; omega)))); intro n hn) | (refine And.intro ?_ ?_) | (intro h; first | (exact Bool.noConfusion h) | ((simp only [decide_eq_true_eq, decide_eq_false_iff_not, beq_iff_eq, bne_iff_ne, ne_eq, beq_eq_false_iff_ne, bne_eq_false_iff_eq, Bool.not_eq_true', Bool.not_eq_false', Bool.not_eq_true, Bool.not_eq_false, Int.not_le, Int.not_lt, Bool.and_eq_true, Bool.or_eq_true, Bool.or_eq_false_iff, Bool.and_eq_false_iff] at h); (try (first | (exact Bool.noConfusion h) | (exact (h trivial).elim)))) | skip) | ((with_reducible refine (?_ : chk _ _ = true)); kernel_rfl) | exact trivial)
    any_goals (first | ((refine ⟨(wrap64 (s + 6), wrap64 (i + 1)), ?_, ?_, none, And.intro rfl (And.intro ?_ ?_)⟩); (rotate_left 2); (focus ((repeat' (first | exact trivial | exact rfl | (refine And.intro ?_ ?_))); done)); (focus ((repeat' (first | exact trivial | exact rfl | (refine And.intro ?_ ?_))); done))) | ((refine ⟨(wrap64 (s + 4), wrap64 (i + 1)), ?_, ?_, none, And.intro rfl (And.intro ?_ ?_)⟩); (rotate_left 2); (focus ((repeat' (first | exact trivial | exact rfl | (refine And.intro ?_ ?_))); done)); (focus ((repeat' (first | exact trivial | exact rfl | (refine And.intro ?_ ?_))); done))) | ((refine ⟨(wrap64 (s + 12), wrap64 (i + 1)), ?_, ?_, none, And.intro rfl (And.intro ?_ ?_)⟩); (rotate_left 2); (focus ((repeat' (first | exact trivial | exact rfl | (refine And.intro ?_ ?_))); done)); (focus ((repeat' (first | exact trivial | exact rfl | (refine And.intro ?_ ?_))); done))) | (exact hend (by omega)))
    any_goals (with_reducible refine (?_ : (_ : Nat) < _)); dsimp only; rw [wrap_small (n := i + 1) (by omega) (by omega)]; omega
    all_goals dsimp only at hn ⊢
    all_goals rw [wrap_small (n := i + 1) (by omega) (by omega), hs, wsum, hn, g3]
    all_goals refine ⟨by omega, by omega, ?_⟩
    all_goals (dsimp only; congr 2; unfold wt; grind)


end Go.Proofs.Ytodpegnkengeiaa
