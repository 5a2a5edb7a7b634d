/- IsComposition: the square of a bilinear polynomial, array by array. -/
import Derived.Test.YtfljlpijhagloaaF8
import Derived.Test.YtfljlpijhagloaaF13
namespace Go.Proofs.Ytfljlpijhagloaa
open Go.RowKit
set_option linter.unusedSimpArgs false
set_option linter.unusedVariables false
set_option maxRecDepth 100000
set_option maxHeartbeats 2000000

def sqIx (n : Nat) : Nat := 3 * (n / 4 / 2 + n % 4 / 2) + (n / 4 % 2 + n % 4 % 2)
def sqF (u v : List Int) : Nat → List Int
  | 0 => [0, 0, 0, 0, 0, 0, 0, 0, 0]
  | n + 1 => (sqF u v n).set (sqIx n) (wrap64 ((sqF u v n).getD (sqIx n) 0 + wrap64 (u.getD (n / 4) 0 * v.getD (n % 4) 0)))
theorem list9 {t0 t1 t2 t3 t4 t5 t6 t7 t8 r0 r1 r2 r3 r4 r5 r6 r7 r8 : Int} (h : [t0, t1, t2, t3, t4, t5, t6, t7, t8] = [r0, r1, r2, r3, r4, r5, r6, r7, r8]) : t0 = r0 ∧ t1 = r1 ∧ t2 = r2 ∧ t3 = r3 ∧ t4 = r4 ∧ t5 = r5 ∧ t6 = r6 ∧ t7 = r7 ∧ t8 = r8 := by
  simpa using h

theorem imp_squareOf (a b c d e f g o t0 t1 t2 t3 t4 t5 t6 t7 t8 : Int) (ht : [t0, t1, t2, t3, t4, t5, t6, t7, t8] = sqF [a, b, c, d] [e, f, g, o] 16) : AFun Try.prog 34 [] [.agg [cI a, cI b, cI c, cI d], .agg [cI e, cI f, cI g, cI o]]
    (.agg [cI t0, cI t1, cI t2, cI t3, cI t4, cI t5, cI t6, cI t7, cI t8]) [] [] := by
  refine afun_intro fn34 rfl rfl (by repeat' (first | exact trivial | (simp; done) | refine ⟨?_, ?_⟩)) ?_
  unfold ac34
  refine loop_rule (σ := Int × Int × Int × Int × Int × Int × Int × Int × Int × Int) (fun s => [(12, I s.1)]) (fun s => [((2, 0), .bx [cI a, cI b, cI c, cI d]), ((3, 0), .bx [cI e, cI f, cI g, cI o]), ((4, 0), .bx [cI 0, cI 0, cI 0, cI 0, cI 0, cI 0, cI 0, cI 0, cI 0]), ((5, 0), .bx [cI s.2.1, cI s.2.2.1, cI s.2.2.2.1, cI s.2.2.2.2.1, cI s.2.2.2.2.2.1, cI s.2.2.2.2.2.2.1, cI s.2.2.2.2.2.2.2.1, cI s.2.2.2.2.2.2.2.2.1, cI s.2.2.2.2.2.2.2.2.2])]) (fun s => 0 ≤ s.1 ∧ s.1 ≤ 4 ∧ [s.2.1, s.2.2.1, s.2.2.2.1, s.2.2.2.2.1, s.2.2.2.2.2.1, s.2.2.2.2.2.2.1, s.2.2.2.2.2.2.2.1, s.2.2.2.2.2.2.2.2.1, s.2.2.2.2.2.2.2.2.2] = sqF [a, b, c, d] [e, f, g, o] (4 * s.1.toNat)) (fun s => (4 - s.1).toNat) ((0, 0, 0, 0, 0, 0, 0, 0, 0, 0)) ?_ (by repeat' (first | exact trivial | exact rfl | (refine And.intro ?_ ?_))) (by repeat' (first | exact trivial | exact rfl | (refine And.intro ?_ ?_))) (fun s => ⟨rfl, rfl⟩) (fun s i h => by first | exact absurd h (Nat.not_lt_zero i) | (cases i with | zero => rfl | succ i => exact absurd (Nat.lt_of_succ_lt_succ h) (Nat.not_lt_zero i))) ?_
  · exact ⟨by decide, by decide, rfl⟩
  rintro ⟨i, r0, r1, r2, r3, r4, r5, r6, r7, r8⟩ ⟨g0, g1, g2⟩
  dsimp only at g0 g1 g2 ⊢
  have hh : [r0, r1, r2, r3, r4, r5, r6, r7, r8] = [t0, t1, t2, t3, t4, t5, t6, t7, t8] ∨ i < 4 := by
    rcases Int.lt_or_eq_of_le g1 with h4 | h4
    · exact .inr h4
    · subst h4; exact .inl (g2.trans ht.symm)
  have hi : i = 0 ∨ i = 1 ∨ i = 2 ∨ i = 3 ∨ i = 4 := by omega
  rcases hi with rfl | rfl | rfl | rfl | rfl
  · repeat' (first | ((with_reducible refine (?_ : (_ : Bool) = _)); (with_reducible rfl)) | ((with_reducible refine (?_ : (_ : Nat × Nat) = _)); (with_reducible rfl)) | (with_reducible refine leafRI ?_) | (with_reducible refine leafRB ?_) | (with_reducible refine leafI ?_) | (with_reducible refine leafB ?_) | ((with_reducible refine (?_ : (_ : Int) = _)); (with_reducible rfl)) | ((with_reducible refine (?_ : (_ : List (List Value)) = _)); (with_reducible rfl)) | ((with_reducible refine (?_ : (_ : Int) ≠ 0)); (first | assumption | omega | (simp; done) | (simp only [ints_len] at *; omega) | (simp; omega))) | ((with_reducible refine (?_ : (_ : Int) ≤ _)); (first | assumption | omega | (simp; done) | (simp only [ints_len] at *; omega) | (simp; omega))) | ((with_reducible refine (?_ : (_ : Int) < _)); (first | assumption | omega | (simp; done) | (simp only [ints_len] at *; omega) | (simp; omega))) | ((with_reducible refine (?_ : (_ : Nat) ≤ _)); (first | omega | (simp only [List.length_cons, List.length_nil]; omega) | (simp [ints]; done) | (simp; omega))) | ((with_reducible refine (?_ : (_ : Nat) < _)); (first | omega | (simp only [List.length_cons, List.length_nil]; omega) | (simp [ints]; done) | (simp; omega))) | ((with_reducible refine (?_ : (_ : Nat) = _)); (first | (with_reducible rfl) | (simp; done) | (simp only [fr_len]) | (simp only [ints_len]) | omega | (simp [*]; done))) | (refine And.intro ?_ ?_) | (intro h; first | (exact Bool.noConfusion h) | (exact absurd h (by decide)) | ((simp only [decide_eq_true_eq, decide_eq_false_iff_not, beq_iff_eq, bne_iff_ne, ne_eq, beq_eq_false_iff_ne, bne_eq_false_iff_eq, Bool.not_eq_true', Bool.not_eq_false', Bool.not_eq_true, Bool.not_eq_false, Int.not_le, Int.not_lt, Bool.and_eq_true, Bool.or_eq_true, Bool.or_eq_false_iff, Bool.and_eq_false_iff] at h); (try (first | (exact Bool.noConfusion h) | (exact (h trivial).elim)))) | skip) | (first | (refine ex_nat (q := 0) (by decide +kernel) (by decide +kernel) ?_) | (refine ex_nat (q := 1) (by decide +kernel) (by decide +kernel) ?_) | (refine ex_nat (q := 2) (by decide +kernel) (by decide +kernel) ?_) | (refine ex_nat (q := 3) (by decide +kernel) (by decide +kernel) ?_)) | ((with_reducible refine (?_ : chk _ _ = true)); kernel_rfl) | exact trivial | (refine Exists.intro _ (And.intro rfl ?_)))
    refine loop_rule (σ := Int × Int × Int × Int × Int × Int × Int × Int × Int × Int) (fun s => [(17, I s.1)]) (fun s => [((2, 0), .bx [cI a, cI b, cI c, cI d]), ((3, 0), .bx [cI e, cI f, cI g, cI o]), ((4, 0), .bx [cI 0, cI 0, cI 0, cI 0, cI 0, cI 0, cI 0, cI 0, cI 0]), ((5, 0), .bx [cI s.2.1, cI s.2.2.1, cI s.2.2.2.1, cI s.2.2.2.2.1, cI s.2.2.2.2.2.1, cI s.2.2.2.2.2.2.1, cI s.2.2.2.2.2.2.2.1, cI s.2.2.2.2.2.2.2.2.1, cI s.2.2.2.2.2.2.2.2.2])]) (fun s => 0 ≤ s.1 ∧ s.1 ≤ 4 ∧ [s.2.1, s.2.2.1, s.2.2.2.1, s.2.2.2.2.1, s.2.2.2.2.2.1, s.2.2.2.2.2.2.1, s.2.2.2.2.2.2.2.1, s.2.2.2.2.2.2.2.2.1, s.2.2.2.2.2.2.2.2.2] = sqF [a, b, c, d] [e, f, g, o] (4 * 0 + s.1.toNat)) (fun s => (4 - s.1).toNat) ((0, r0, r1, r2, r3, r4, r5, r6, r7, r8)) ?_ (by repeat' (first | exact trivial | exact rfl | (refine And.intro ?_ ?_))) (by repeat' (first | exact trivial | exact rfl | (refine And.intro ?_ ?_))) (fun s => ⟨rfl, rfl⟩) (fun s i h => by first | exact absurd h (Nat.not_lt_zero i) | (cases i with | zero => rfl | succ i => exact absurd (Nat.lt_of_succ_lt_succ h) (Nat.not_lt_zero i))) ?_
    · dsimp only
      exact ⟨by decide, by decide, g2⟩
    clear g2
    rintro ⟨j, u0, u1, u2, u3, u4, u5, u6, u7, u8⟩ ⟨k0, k1, k2⟩
    dsimp only at k0 k1 k2 ⊢
    have hj : j = 0 ∨ j = 1 ∨ j = 2 ∨ j = 3 ∨ j = 4 := by omega
    rcases hj with rfl | rfl | rfl | rfl | rfl
    all_goals repeat' (first | ((with_reducible refine (?_ : (_ : Bool) = _)); (with_reducible rfl)) | ((with_reducible refine (?_ : (_ : Nat × Nat) = _)); (with_reducible rfl)) | (with_reducible refine leafRI ?_) | (with_reducible refine leafRB ?_) | (with_reducible refine leafI ?_) | (with_reducible refine leafB ?_) | ((with_reducible refine (?_ : (_ : Int) = _)); (with_reducible rfl)) | ((with_reducible refine (?_ : (_ : List (List Value)) = _)); (with_reducible rfl)) | ((with_reducible refine (?_ : (_ : Int) ≠ 0)); (first | assumption | omega | (simp; done) | (simp only [ints_len] at *; omega) | (simp; omega))) | ((with_reducible refine (?_ : (_ : Int) ≤ _)); (first | assumption | omega | (simp; done) | (simp only [ints_len] at *; omega) | (simp; omega))) | ((with_reducible refine (?_ : (_ : Int) < _)); (first | assumption | omega | (simp; done) | (simp only [ints_len] at *; omega) | (simp; omega))) | ((with_reducible refine (?_ : (_ : Nat) ≤ _)); (first | omega | (simp only [List.length_cons, List.length_nil]; omega) | (simp [ints]; done) | (simp; omega))) | ((with_reducible refine (?_ : (_ : Nat) < _)); (first | omega | (simp only [List.length_cons, List.length_nil]; omega) | (simp [ints]; done) | (simp; omega))) | ((with_reducible refine (?_ : (_ : Nat) = _)); (first | (with_reducible rfl) | (simp; done) | (simp only [fr_len]) | (simp only [ints_len]) | omega | (simp [*]; done))) | (refine And.intro ?_ ?_) | (intro h; first | (exact Bool.noConfusion h) | (exact absurd h (by decide)) | ((simp only [decide_eq_true_eq, decide_eq_false_iff_not, beq_iff_eq, bne_iff_ne, ne_eq, beq_eq_false_iff_ne, bne_eq_false_iff_eq, Bool.not_eq_true', Bool.not_eq_false', Bool.not_eq_true, Bool.not_eq_false, Int.not_le, Int.not_lt, Bool.and_eq_true, Bool.or_eq_true, Bool.or_eq_false_iff, Bool.and_eq_false_iff] at h); (try (first | (exact Bool.noConfusion h) | (exact (h trivial).elim)))) | skip) | (first | (refine ex_nat (q := 0) (by decide +kernel) (by decide +kernel) ?_) | (refine ex_nat (q := 1) (by decide +kernel) (by decide +kernel) ?_) | (refine ex_nat (q := 2) (by decide +kernel) (by decide +kernel) ?_) | (refine ex_nat (q := 3) (by decide +kernel) (by decide +kernel) ?_)) | ((with_reducible refine (?_ : chk _ _ = true)); kernel_rfl) | exact trivial | (refine Exists.intro _ (And.intro rfl ?_)))
    · refine ⟨(_, _, _, _, _, _, _, _, _, _), ?_, ?_, none, And.intro rfl (And.intro (by repeat' (first | exact trivial | exact rfl | (refine And.intro ?_ ?_))) (by repeat' (first | exact trivial | exact rfl | (refine And.intro ?_ ?_))))⟩
      · dsimp only
        rw [show wrap64 (0 + 1) = 1 by decide +kernel]
        refine ⟨by decide, by decide, ?_⟩
        show _ = sqF _ _ (0 * 4 + 0 + 1)
        rw [sqF, show sqF [a, b, c, d] [e, f, g, o] (0 * 4 + 0) = _ from k2.symm]
        rfl
      · dsimp only
        rw [show wrap64 (0 + 1) = 1 by decide +kernel]
        decide
    · refine ⟨(_, _, _, _, _, _, _, _, _, _), ?_, ?_, none, And.intro rfl (And.intro (by repeat' (first | exact trivial | exact rfl | (refine And.intro ?_ ?_))) (by repeat' (first | exact trivial | exact rfl | (refine And.intro ?_ ?_))))⟩
      · dsimp only
        rw [show wrap64 (1 + 1) = 2 by decide +kernel]
        refine ⟨by decide, by decide, ?_⟩
        show _ = sqF _ _ (0 * 4 + 1 + 1)
        rw [sqF, show sqF [a, b, c, d] [e, f, g, o] (0 * 4 + 1) = _ from k2.symm]
        rfl
      · dsimp only
        rw [show wrap64 (1 + 1) = 2 by decide +kernel]
        decide
    · refine ⟨(_, _, _, _, _, _, _, _, _, _), ?_, ?_, none, And.intro rfl (And.intro (by repeat' (first | exact trivial | exact rfl | (refine And.intro ?_ ?_))) (by repeat' (first | exact trivial | exact rfl | (refine And.intro ?_ ?_))))⟩
      · dsimp only
        rw [show wrap64 (2 + 1) = 3 by decide +kernel]
        refine ⟨by decide, by decide, ?_⟩
        show _ = sqF _ _ (0 * 4 + 2 + 1)
        rw [sqF, show sqF [a, b, c, d] [e, f, g, o] (0 * 4 + 2) = _ from k2.symm]
        rfl
      · dsimp only
        rw [show wrap64 (2 + 1) = 3 by decide +kernel]
        decide
    · refine ⟨(_, _, _, _, _, _, _, _, _, _), ?_, ?_, none, And.intro rfl (And.intro (by repeat' (first | exact trivial | exact rfl | (refine And.intro ?_ ?_))) (by repeat' (first | exact trivial | exact rfl | (refine And.intro ?_ ?_))))⟩
      · dsimp only
        rw [show wrap64 (3 + 1) = 4 by decide +kernel]
        refine ⟨by decide, by decide, ?_⟩
        show _ = sqF _ _ (0 * 4 + 3 + 1)
        rw [sqF, show sqF [a, b, c, d] [e, f, g, o] (0 * 4 + 3) = _ from k2.symm]
        rfl
      · dsimp only
        rw [show wrap64 (3 + 1) = 4 by decide +kernel]
        decide
    · refine ⟨(_, _, _, _, _, _, _, _, _, _), ?_, ?_, none, And.intro rfl (And.intro (by repeat' (first | exact trivial | exact rfl | (refine And.intro ?_ ?_))) (by repeat' (first | exact trivial | exact rfl | (refine And.intro ?_ ?_))))⟩
      · dsimp only
        rw [show wrap64 (0 + 1) = 1 by decide +kernel]
        exact ⟨by decide, by decide, k2⟩
      · dsimp only
        rw [show wrap64 (0 + 1) = 1 by decide +kernel]
        decide
  · repeat' (first | ((with_reducible refine (?_ : (_ : Bool) = _)); (with_reducible rfl)) | ((with_reducible refine (?_ : (_ : Nat × Nat) = _)); (with_reducible rfl)) | (with_reducible refine leafRI ?_) | (with_reducible refine leafRB ?_) | (with_reducible refine leafI ?_) | (with_reducible refine leafB ?_) | ((with_reducible refine (?_ : (_ : Int) = _)); (with_reducible rfl)) | ((with_reducible refine (?_ : (_ : List (List Value)) = _)); (with_reducible rfl)) | ((with_reducible refine (?_ : (_ : Int) ≠ 0)); (first | assumption | omega | (simp; done) | (simp only [ints_len] at *; omega) | (simp; omega))) | ((with_reducible refine (?_ : (_ : Int) ≤ _)); (first | assumption | omega | (simp; done) | (simp only [ints_len] at *; omega) | (simp; omega))) | ((with_reducible refine (?_ : (_ : Int) < _)); (first | assumption | omega | (simp; done) | (simp only [ints_len] at *; omega) | (simp; omega))) | ((with_reducible refine (?_ : (_ : Nat) ≤ _)); (first | omega | (simp only [List.length_cons, List.length_nil]; omega) | (simp [ints]; done) | (simp; omega))) | ((with_reducible refine (?_ : (_ : Nat) < _)); (first | omega | (simp only [List.length_cons, List.length_nil]; omega) | (simp [ints]; done) | (simp; omega))) | ((with_reducible refine (?_ : (_ : Nat) = _)); (first | (with_reducible rfl) | (simp; done) | (simp only [fr_len]) | (simp only [ints_len]) | omega | (simp [*]; done))) | (refine And.intro ?_ ?_) | (intro h; first | (exact Bool.noConfusion h) | (exact absurd h (by decide)) | ((simp only [decide_eq_true_eq, decide_eq_false_iff_not, beq_iff_eq, bne_iff_ne, ne_eq, beq_eq_false_iff_ne, bne_eq_false_iff_eq, Bool.not_eq_true', Bool.not_eq_false', Bool.not_eq_true, Bool.not_eq_false, Int.not_le, Int.not_lt, Bool.and_eq_true, Bool.or_eq_true, Bool.or_eq_false_iff, Bool.and_eq_false_iff] at h); (try (first | (exact Bool.noConfusion h) | (exact (h trivial).elim)))) | skip) | (first | (refine ex_nat (q := 0) (by decide +kernel) (by decide +kernel) ?_) | (refine ex_nat (q := 1) (by decide +kernel) (by decide +kernel) ?_) | (refine ex_nat (q := 2) (by decide +kernel) (by decide +kernel) ?_) | (refine ex_nat (q := 3) (by decide +kernel) (by decide +kernel) ?_)) | ((with_reducible refine (?_ : chk _ _ = true)); kernel_rfl) | exact trivial | (refine Exists.intro _ (And.intro rfl ?_)))
    refine loop_rule (σ := Int × Int × Int × Int × Int × Int × Int × Int × Int × Int) (fun s => [(17, I s.1)]) (fun s => [((2, 0), .bx [cI a, cI b, cI c, cI d]), ((3, 0), .bx [cI e, cI f, cI g, cI o]), ((4, 0), .bx [cI 0, cI 0, cI 0, cI 0, cI 0, cI 0, cI 0, cI 0, cI 0]), ((5, 0), .bx [cI s.2.1, cI s.2.2.1, cI s.2.2.2.1, cI s.2.2.2.2.1, cI s.2.2.2.2.2.1, cI s.2.2.2.2.2.2.1, cI s.2.2.2.2.2.2.2.1, cI s.2.2.2.2.2.2.2.2.1, cI s.2.2.2.2.2.2.2.2.2])]) (fun s => 0 ≤ s.1 ∧ s.1 ≤ 4 ∧ [s.2.1, s.2.2.1, s.2.2.2.1, s.2.2.2.2.1, s.2.2.2.2.2.1, s.2.2.2.2.2.2.1, s.2.2.2.2.2.2.2.1, s.2.2.2.2.2.2.2.2.1, s.2.2.2.2.2.2.2.2.2] = sqF [a, b, c, d] [e, f, g, o] (4 * 1 + s.1.toNat)) (fun s => (4 - s.1).toNat) ((0, r0, r1, r2, r3, r4, r5, r6, r7, r8)) ?_ (by repeat' (first | exact trivial | exact rfl | (refine And.intro ?_ ?_))) (by repeat' (first | exact trivial | exact rfl | (refine And.intro ?_ ?_))) (fun s => ⟨rfl, rfl⟩) (fun s i h => by first | exact absurd h (Nat.not_lt_zero i) | (cases i with | zero => rfl | succ i => exact absurd (Nat.lt_of_succ_lt_succ h) (Nat.not_lt_zero i))) ?_
    · dsimp only
      exact ⟨by decide, by decide, g2⟩
    clear g2
    rintro ⟨j, u0, u1, u2, u3, u4, u5, u6, u7, u8⟩ ⟨k0, k1, k2⟩
    dsimp only at k0 k1 k2 ⊢
    have hj : j = 0 ∨ j = 1 ∨ j = 2 ∨ j = 3 ∨ j = 4 := by omega
    rcases hj with rfl | rfl | rfl | rfl | rfl
    all_goals repeat' (first | ((with_reducible refine (?_ : (_ : Bool) = _)); (with_reducible rfl)) | ((with_reducible refine (?_ : (_ : Nat × Nat) = _)); (with_reducible rfl)) | (with_reducible refine leafRI ?_) | (with_reducible refine leafRB ?_) | (with_reducible refine leafI ?_) | (with_reducible refine leafB ?_) | ((with_reducible refine (?_ : (_ : Int) = _)); (with_reducible rfl)) | ((with_reducible refine (?_ : (_ : List (List Value)) = _)); (with_reducible rfl)) | ((with_reducible refine (?_ : (_ : Int) ≠ 0)); (first | assumption | omega | (simp; done) | (simp only [ints_len] at *; omega) | (simp; omega))) | ((with_reducible refine (?_ : (_ : Int) ≤ _)); (first | assumption | omega | (simp; done) | (simp only [ints_len] at *; omega) | (simp; omega))) | ((with_reducible refine (?_ : (_ : Int) < _)); (first | assumption | omega | (simp; done) | (simp only [ints_len] at *; omega) | (simp; omega))) | ((with_reducible refine (?_ : (_ : Nat) ≤ _)); (first | omega | (simp only [List.length_cons, List.length_nil]; omega) | (simp [ints]; done) | (simp; omega))) | ((with_reducible refine (?_ : (_ : Nat) < _)); (first | omega | (simp only [List.length_cons, List.length_nil]; omega) | (simp [ints]; done) | (simp; omega))) | ((with_reducible refine (?_ : (_ : Nat) = _)); (first | (with_reducible rfl) | (simp; done) | (simp only [fr_len]) | (simp only [ints_len]) | omega | (simp [*]; done))) | (refine And.intro ?_ ?_) | (intro h; first | (exact Bool.noConfusion h) | (exact absurd h (by decide)) | ((simp only [decide_eq_true_eq, decide_eq_false_iff_not, beq_iff_eq, bne_iff_ne, ne_eq, beq_eq_false_iff_ne, bne_eq_false_iff_eq, Bool.not_eq_true', Bool.not_eq_false', Bool.not_eq_true, Bool.not_eq_false, Int.not_le, Int.not_lt, Bool.and_eq_true, Bool.or_eq_true, Bool.or_eq_false_iff, Bool.and_eq_false_iff] at h); (try (first | (exact Bool.noConfusion h) | (exact (h trivial).elim)))) | skip) | (first | (refine ex_nat (q := 0) (by decide +kernel) (by decide +kernel) ?_) | (refine ex_nat (q := 1) (by decide +kernel) (by decide +kernel) ?_) | (refine ex_nat (q := 2) (by decide +kernel) (by decide +kernel) ?_) | (refine ex_nat (q := 3) (by decide +kernel) (by decide +kernel) ?_)) | ((with_reducible refine (?_ : chk _ _ = true)); kernel_rfl) | exact trivial | (refine Exists.intro _ (And.intro rfl ?_)))
    · refine ⟨(_, _, _, _, _, _, _, _, _, _), ?_, ?_, none, And.intro rfl (And.intro (by repeat' (first | exact trivial | exact rfl | (refine And.intro ?_ ?_))) (by repeat' (first | exact trivial | exact rfl | (refine And.intro ?_ ?_))))⟩
      · dsimp only
        rw [show wrap64 (0 + 1) = 1 by decide +kernel]
        refine ⟨by decide, by decide, ?_⟩
        show _ = sqF _ _ (1 * 4 + 0 + 1)
        rw [sqF, show sqF [a, b, c, d] [e, f, g, o] (1 * 4 + 0) = _ from k2.symm]
        rfl
      · dsimp only
        rw [show wrap64 (0 + 1) = 1 by decide +kernel]
        decide
    · refine ⟨(_, _, _, _, _, _, _, _, _, _), ?_, ?_, none, And.intro rfl (And.intro (by repeat' (first | exact trivial | exact rfl | (refine And.intro ?_ ?_))) (by repeat' (first | exact trivial | exact rfl | (refine And.intro ?_ ?_))))⟩
      · dsimp only
        rw [show wrap64 (1 + 1) = 2 by decide +kernel]
        refine ⟨by decide, by decide, ?_⟩
        show _ = sqF _ _ (1 * 4 + 1 + 1)
        rw [sqF, show sqF [a, b, c, d] [e, f, g, o] (1 * 4 + 1) = _ from k2.symm]
        rfl
      · dsimp only
        rw [show wrap64 (1 + 1) = 2 by decide +kernel]
        decide
    · refine ⟨(_, _, _, _, _, _, _, _, _, _), ?_, ?_, none, And.intro rfl (And.intro (by repeat' (first | exact trivial | exact rfl | (refine And.intro ?_ ?_))) (by repeat' (first | exact trivial | exact rfl | (refine And.intro ?_ ?_))))⟩
      · dsimp only
        rw [show wrap64 (2 + 1) = 3 by decide +kernel]
        refine ⟨by decide, by decide, ?_⟩
        show _ = sqF _ _ (1 * 4 + 2 + 1)
        rw [sqF, show sqF [a, b, c, d] [e, f, g, o] (1 * 4 + 2) = _ from k2.symm]
        rfl
      · dsimp only
        rw [show wrap64 (2 + 1) = 3 by decide +kernel]
        decide
    · refine ⟨(_, _, _, _, _, _, _, _, _, _), ?_, ?_, none, And.intro rfl (And.intro (by repeat' (first | exact trivial | exact rfl | (refine And.intro ?_ ?_))) (by repeat' (first | exact trivial | exact rfl | (refine And.intro ?_ ?_))))⟩
      · dsimp only
        rw [show wrap64 (3 + 1) = 4 by decide +kernel]
        refine ⟨by decide, by decide, ?_⟩
        show _ = sqF _ _ (1 * 4 + 3 + 1)
        rw [sqF, show sqF [a, b, c, d] [e, f, g, o] (1 * 4 + 3) = _ from k2.symm]
        rfl
      · dsimp only
        rw [show wrap64 (3 + 1) = 4 by decide +kernel]
        decide
    · refine ⟨(_, _, _, _, _, _, _, _, _, _), ?_, ?_, none, And.intro rfl (And.intro (by repeat' (first | exact trivial | exact rfl | (refine And.intro ?_ ?_))) (by repeat' (first | exact trivial | exact rfl | (refine And.intro ?_ ?_))))⟩
      · dsimp only
        rw [show wrap64 (1 + 1) = 2 by decide +kernel]
        exact ⟨by decide, by decide, k2⟩
      · dsimp only
        rw [show wrap64 (1 + 1) = 2 by decide +kernel]
        decide
  · repeat' (first | ((with_reducible refine (?_ : (_ : Bool) = _)); (with_reducible rfl)) | ((with_reducible refine (?_ : (_ : Nat × Nat) = _)); (with_reducible rfl)) | (with_reducible refine leafRI ?_) | (with_reducible refine leafRB ?_) | (with_reducible refine leafI ?_) | (with_reducible refine leafB ?_) | ((with_reducible refine (?_ : (_ : Int) = _)); (with_reducible rfl)) | ((with_reducible refine (?_ : (_ : List (List Value)) = _)); (with_reducible rfl)) | ((with_reducible refine (?_ : (_ : Int) ≠ 0)); (first | assumption | omega | (simp; done) | (simp only [ints_len] at *; omega) | (simp; omega))) | ((with_reducible refine (?_ : (_ : Int) ≤ _)); (first | assumption | omega | (simp; done) | (simp only [ints_len] at *; omega) | (simp; omega))) | ((with_reducible refine (?_ : (_ : Int) < _)); (first | assumption | omega | (simp; done) | (simp only [ints_len] at *; omega) | (simp; omega))) | ((with_reducible refine (?_ : (_ : Nat) ≤ _)); (first | omega | (simp only [List.length_cons, List.length_nil]; omega) | (simp [ints]; done) | (simp; omega))) | ((with_reducible refine (?_ : (_ : Nat) < _)); (first | omega | (simp only [List.length_cons, List.length_nil]; omega) | (simp [ints]; done) | (simp; omega))) | ((with_reducible refine (?_ : (_ : Nat) = _)); (first | (with_reducible rfl) | (simp; done) | (simp only [fr_len]) | (simp only [ints_len]) | omega | (simp [*]; done))) | (refine And.intro ?_ ?_) | (intro h; first | (exact Bool.noConfusion h) | (exact absurd h (by decide)) | ((simp only [decide_eq_true_eq, decide_eq_false_iff_not, beq_iff_eq, bne_iff_ne, ne_eq, beq_eq_false_iff_ne, bne_eq_false_iff_eq, Bool.not_eq_true', Bool.not_eq_false', Bool.not_eq_true, Bool.not_eq_false, Int.not_le, Int.not_lt, Bool.and_eq_true, Bool.or_eq_true, Bool.or_eq_false_iff, Bool.and_eq_false_iff] at h); (try (first | (exact Bool.noConfusion h) | (exact (h trivial).elim)))) | skip) | (first | (refine ex_nat (q := 0) (by decide +kernel) (by decide +kernel) ?_) | (refine ex_nat (q := 1) (by decide +kernel) (by decide +kernel) ?_) | (refine ex_nat (q := 2) (by decide +kernel) (by decide +kernel) ?_) | (refine ex_nat (q := 3) (by decide +kernel) (by decide +kernel) ?_)) | ((with_reducible refine (?_ : chk _ _ = true)); kernel_rfl) | exact trivial | (refine Exists.intro _ (And.intro rfl ?_)))
    refine loop_rule (σ := Int × Int × Int × Int × Int × Int × Int × Int × Int × Int) (fun s => [(17, I s.1)]) (fun s => [((2, 0), .bx [cI a, cI b, cI c, cI d]), ((3, 0), .bx [cI e, cI f, cI g, cI o]), ((4, 0), .bx [cI 0, cI 0, cI 0, cI 0, cI 0, cI 0, cI 0, cI 0, cI 0]), ((5, 0), .bx [cI s.2.1, cI s.2.2.1, cI s.2.2.2.1, cI s.2.2.2.2.1, cI s.2.2.2.2.2.1, cI s.2.2.2.2.2.2.1, cI s.2.2.2.2.2.2.2.1, cI s.2.2.2.2.2.2.2.2.1, cI s.2.2.2.2.2.2.2.2.2])]) (fun s => 0 ≤ s.1 ∧ s.1 ≤ 4 ∧ [s.2.1, s.2.2.1, s.2.2.2.1, s.2.2.2.2.1, s.2.2.2.2.2.1, s.2.2.2.2.2.2.1, s.2.2.2.2.2.2.2.1, s.2.2.2.2.2.2.2.2.1, s.2.2.2.2.2.2.2.2.2] = sqF [a, b, c, d] [e, f, g, o] (4 * 2 + s.1.toNat)) (fun s => (4 - s.1).toNat) ((0, r0, r1, r2, r3, r4, r5, r6, r7, r8)) ?_ (by repeat' (first | exact trivial | exact rfl | (refine And.intro ?_ ?_))) (by repeat' (first | exact trivial | exact rfl | (refine And.intro ?_ ?_))) (fun s => ⟨rfl, rfl⟩) (fun s i h => by first | exact absurd h (Nat.not_lt_zero i) | (cases i with | zero => rfl | succ i => exact absurd (Nat.lt_of_succ_lt_succ h) (Nat.not_lt_zero i))) ?_
    · dsimp only
      exact ⟨by decide, by decide, g2⟩
    clear g2
    rintro ⟨j, u0, u1, u2, u3, u4, u5, u6, u7, u8⟩ ⟨k0, k1, k2⟩
    dsimp only at k0 k1 k2 ⊢
    have hj : j = 0 ∨ j = 1 ∨ j = 2 ∨ j = 3 ∨ j = 4 := by omega
    rcases hj with rfl | rfl | rfl | rfl | rfl
    all_goals repeat' (first | ((with_reducible refine (?_ : (_ : Bool) = _)); (with_reducible rfl)) | ((with_reducible refine (?_ : (_ : Nat × Nat) = _)); (with_reducible rfl)) | (with_reducible refine leafRI ?_) | (with_reducible refine leafRB ?_) | (with_reducible refine leafI ?_) | (with_reducible refine leafB ?_) | ((with_reducible refine (?_ : (_ : Int) = _)); (with_reducible rfl)) | ((with_reducible refine (?_ : (_ : List (List Value)) = _)); (with_reducible rfl)) | ((with_reducible refine (?_ : (_ : Int) ≠ 0)); (first | assumption | omega | (simp; done) | (simp only [ints_len] at *; omega) | (simp; omega))) | ((with_reducible refine (?_ : (_ : Int) ≤ _)); (first | assumption | omega | (simp; done) | (simp only [ints_len] at *; omega) | (simp; omega))) | ((with_reducible refine (?_ : (_ : Int) < _)); (first | assumption | omega | (simp; done) | (simp only [ints_len] at *; omega) | (simp; omega))) | ((with_reducible refine (?_ : (_ : Nat) ≤ _)); (first | omega | (simp only [List.length_cons, List.length_nil]; omega) | (simp [ints]; done) | (simp; omega))) | ((with_reducible refine (?_ : (_ : Nat) < _)); (first | omega | (simp only [List.length_cons, List.length_nil]; omega) | (simp [ints]; done) | (simp; omega))) | ((with_reducible refine (?_ : (_ : Nat) = _)); (first | (with_reducible rfl) | (simp; done) | (simp only [fr_len]) | (simp only [ints_len]) | omega | (simp [*]; done))) | (refine And.intro ?_ ?_) | (intro h; first | (exact Bool.noConfusion h) | (exact absurd h (by decide)) | ((simp only [decide_eq_true_eq, decide_eq_false_iff_not, beq_iff_eq, bne_iff_ne, ne_eq, beq_eq_false_iff_ne, bne_eq_false_iff_eq, Bool.not_eq_true', Bool.not_eq_false', Bool.not_eq_true, Bool.not_eq_false, Int.not_le, Int.not_lt, Bool.and_eq_true, Bool.or_eq_true, Bool.or_eq_false_iff, Bool.and_eq_false_iff] at h); (try (first | (exact Bool.noConfusion h) | (exact (h trivial).elim)))) | skip) | (first | (refine ex_nat (q := 0) (by decide +kernel) (by decide +kernel) ?_) | (refine ex_nat (q := 1) (by decide +kernel) (by decide +kernel) ?_) | (refine ex_nat (q := 2) (by decide +kernel) (by decide +kernel) ?_) | (refine ex_nat (q := 3) (by decide +kernel) (by decide +kernel) ?_)) | ((with_reducible refine (?_ : chk _ _ = true)); kernel_rfl) | exact trivial | (refine Exists.intro _ (And.intro rfl ?_)))
    · refine ⟨(_, _, _, _, _, _, _, _, _, _), ?_, ?_, none, And.intro rfl (And.intro (by repeat' (first | exact trivial | exact rfl | (refine And.intro ?_ ?_))) (by repeat' (first | exact trivial | exact rfl | (refine And.intro ?_ ?_))))⟩
      · dsimp only
        rw [show wrap64 (0 + 1) = 1 by decide +kernel]
        refine ⟨by decide, by decide, ?_⟩
        show _ = sqF _ _ (2 * 4 + 0 + 1)
        rw [sqF, show sqF [a, b, c, d] [e, f, g, o] (2 * 4 + 0) = _ from k2.symm]
        rfl
      · dsimp only
        rw [show wrap64 (0 + 1) = 1 by decide +kernel]
        decide
    · refine ⟨(_, _, _, _, _, _, _, _, _, _), ?_, ?_, none, And.intro rfl (And.intro (by repeat' (first | exact trivial | exact rfl | (refine And.intro ?_ ?_))) (by repeat' (first | exact trivial | exact rfl | (refine And.intro ?_ ?_))))⟩
      · dsimp only
        rw [show wrap64 (1 + 1) = 2 by decide +kernel]
        refine ⟨by decide, by decide, ?_⟩
        show _ = sqF _ _ (2 * 4 + 1 + 1)
        rw [sqF, show sqF [a, b, c, d] [e, f, g, o] (2 * 4 + 1) = _ from k2.symm]
        rfl
      · dsimp only
        rw [show wrap64 (1 + 1) = 2 by decide +kernel]
        decide
    · refine ⟨(_, _, _, _, _, _, _, _, _, _), ?_, ?_, none, And.intro rfl (And.intro (by repeat' (first | exact trivial | exact rfl | (refine And.intro ?_ ?_))) (by repeat' (first | exact trivial | exact rfl | (refine And.intro ?_ ?_))))⟩
      · dsimp only
        rw [show wrap64 (2 + 1) = 3 by decide +kernel]
        refine ⟨by decide, by decide, ?_⟩
        show _ = sqF _ _ (2 * 4 + 2 + 1)
        rw [sqF, show sqF [a, b, c, d] [e, f, g, o] (2 * 4 + 2) = _ from k2.symm]
        rfl
      · dsimp only
        rw [show wrap64 (2 + 1) = 3 by decide +kernel]
        decide
    · refine ⟨(_, _, _, _, _, _, _, _, _, _), ?_, ?_, none, And.intro rfl (And.intro (by repeat' (first | exact trivial | exact rfl | (refine And.intro ?_ ?_))) (by repeat' (first | exact trivial | exact rfl | (refine And.intro ?_ ?_))))⟩
      · dsimp only
        rw [show wrap64 (3 + 1) = 4 by decide +kernel]
        refine ⟨by decide, by decide, ?_⟩
        show _ = sqF _ _ (2 * 4 + 3 + 1)
        rw [sqF, show sqF [a, b, c, d] [e, f, g, o] (2 * 4 + 3) = _ from k2.symm]
        rfl
      · dsimp only
        rw [show wrap64 (3 + 1) = 4 by decide +kernel]
        decide
    · refine ⟨(_, _, _, _, _, _, _, _, _, _), ?_, ?_, none, And.intro rfl (And.intro (by repeat' (first | exact trivial | exact rfl | (refine And.intro ?_ ?_))) (by repeat' (first | exact trivial | exact rfl | (refine And.intro ?_ ?_))))⟩
      · dsimp only
        rw [show wrap64 (2 + 1) = 3 by decide +kernel]
        exact ⟨by decide, by decide, k2⟩
      · dsimp only
        rw [show wrap64 (2 + 1) = 3 by decide +kernel]
        decide
  · repeat' (first | ((with_reducible refine (?_ : (_ : Bool) = _)); (with_reducible rfl)) | ((with_reducible refine (?_ : (_ : Nat × Nat) = _)); (with_reducible rfl)) | (with_reducible refine leafRI ?_) | (with_reducible refine leafRB ?_) | (with_reducible refine leafI ?_) | (with_reducible refine leafB ?_) | ((with_reducible refine (?_ : (_ : Int) = _)); (with_reducible rfl)) | ((with_reducible refine (?_ : (_ : List (List Value)) = _)); (with_reducible rfl)) | ((with_reducible refine (?_ : (_ : Int) ≠ 0)); (first | assumption | omega | (simp; done) | (simp only [ints_len] at *; omega) | (simp; omega))) | ((with_reducible refine (?_ : (_ : Int) ≤ _)); (first | assumption | omega | (simp; done) | (simp only [ints_len] at *; omega) | (simp; omega))) | ((with_reducible refine (?_ : (_ : Int) < _)); (first | assumption | omega | (simp; done) | (simp only [ints_len] at *; omega) | (simp; omega))) | ((with_reducible refine (?_ : (_ : Nat) ≤ _)); (first | omega | (simp only [List.length_cons, List.length_nil]; omega) | (simp [ints]; done) | (simp; omega))) | ((with_reducible refine (?_ : (_ : Nat) < _)); (first | omega | (simp only [List.length_cons, List.length_nil]; omega) | (simp [ints]; done) | (simp; omega))) | ((with_reducible refine (?_ : (_ : Nat) = _)); (first | (with_reducible rfl) | (simp; done) | (simp only [fr_len]) | (simp only [ints_len]) | omega | (simp [*]; done))) | (refine And.intro ?_ ?_) | (intro h; first | (exact Bool.noConfusion h) | (exact absurd h (by decide)) | ((simp only [decide_eq_true_eq, decide_eq_false_iff_not, beq_iff_eq, bne_iff_ne, ne_eq, beq_eq_false_iff_ne, bne_eq_false_iff_eq, Bool.not_eq_true', Bool.not_eq_false', Bool.not_eq_true, Bool.not_eq_false, Int.not_le, Int.not_lt, Bool.and_eq_true, Bool.or_eq_true, Bool.or_eq_false_iff, Bool.and_eq_false_iff] at h); (try (first | (exact Bool.noConfusion h) | (exact (h trivial).elim)))) | skip) | (first | (refine ex_nat (q := 0) (by decide +kernel) (by decide +kernel) ?_) | (refine ex_nat (q := 1) (by decide +kernel) (by decide +kernel) ?_) | (refine ex_nat (q := 2) (by decide +kernel) (by decide +kernel) ?_) | (refine ex_nat (q := 3) (by decide +kernel) (by decide +kernel) ?_)) | ((with_reducible refine (?_ : chk _ _ = true)); kernel_rfl) | exact trivial | (refine Exists.intro _ (And.intro rfl ?_)))
    refine loop_rule (σ := Int × Int × Int × Int × Int × Int × Int × Int × Int × Int) (fun s => [(17, I s.1)]) (fun s => [((2, 0), .bx [cI a, cI b, cI c, cI d]), ((3, 0), .bx [cI e, cI f, cI g, cI o]), ((4, 0), .bx [cI 0, cI 0, cI 0, cI 0, cI 0, cI 0, cI 0, cI 0, cI 0]), ((5, 0), .bx [cI s.2.1, cI s.2.2.1, cI s.2.2.2.1, cI s.2.2.2.2.1, cI s.2.2.2.2.2.1, cI s.2.2.2.2.2.2.1, cI s.2.2.2.2.2.2.2.1, cI s.2.2.2.2.2.2.2.2.1, cI s.2.2.2.2.2.2.2.2.2])]) (fun s => 0 ≤ s.1 ∧ s.1 ≤ 4 ∧ [s.2.1, s.2.2.1, s.2.2.2.1, s.2.2.2.2.1, s.2.2.2.2.2.1, s.2.2.2.2.2.2.1, s.2.2.2.2.2.2.2.1, s.2.2.2.2.2.2.2.2.1, s.2.2.2.2.2.2.2.2.2] = sqF [a, b, c, d] [e, f, g, o] (4 * 3 + s.1.toNat)) (fun s => (4 - s.1).toNat) ((0, r0, r1, r2, r3, r4, r5, r6, r7, r8)) ?_ (by repeat' (first | exact trivial | exact rfl | (refine And.intro ?_ ?_))) (by repeat' (first | exact trivial | exact rfl | (refine And.intro ?_ ?_))) (fun s => ⟨rfl, rfl⟩) (fun s i h => by first | exact absurd h (Nat.not_lt_zero i) | (cases i with | zero => rfl | succ i => exact absurd (Nat.lt_of_succ_lt_succ h) (Nat.not_lt_zero i))) ?_
    · dsimp only
      exact ⟨by decide, by decide, g2⟩
    clear g2
    rintro ⟨j, u0, u1, u2, u3, u4, u5, u6, u7, u8⟩ ⟨k0, k1, k2⟩
    dsimp only at k0 k1 k2 ⊢
    have hj : j = 0 ∨ j = 1 ∨ j = 2 ∨ j = 3 ∨ j = 4 := by omega
    rcases hj with rfl | rfl | rfl | rfl | rfl
    all_goals repeat' (first | ((with_reducible refine (?_ : (_ : Bool) = _)); (with_reducible rfl)) | ((with_reducible refine (?_ : (_ : Nat × Nat) = _)); (with_reducible rfl)) | (with_reducible refine leafRI ?_) | (with_reducible refine leafRB ?_) | (with_reducible refine leafI ?_) | (with_reducible refine leafB ?_) | ((with_reducible refine (?_ : (_ : Int) = _)); (with_reducible rfl)) | ((with_reducible refine (?_ : (_ : List (List Value)) = _)); (with_reducible rfl)) | ((with_reducible refine (?_ : (_ : Int) ≠ 0)); (first | assumption | omega | (simp; done) | (simp only [ints_len] at *; omega) | (simp; omega))) | ((with_reducible refine (?_ : (_ : Int) ≤ _)); (first | assumption | omega | (simp; done) | (simp only [ints_len] at *; omega) | (simp; omega))) | ((with_reducible refine (?_ : (_ : Int) < _)); (first | assumption | omega | (simp; done) | (simp only [ints_len] at *; omega) | (simp; omega))) | ((with_reducible refine (?_ : (_ : Nat) ≤ _)); (first | omega | (simp only [List.length_cons, List.length_nil]; omega) | (simp [ints]; done) | (simp; omega))) | ((with_reducible refine (?_ : (_ : Nat) < _)); (first | omega | (simp only [List.length_cons, List.length_nil]; omega) | (simp [ints]; done) | (simp; omega))) | ((with_reducible refine (?_ : (_ : Nat) = _)); (first | (with_reducible rfl) | (simp; done) | (simp only [fr_len]) | (simp only [ints_len]) | omega | (simp [*]; done))) | (refine And.intro ?_ ?_) | (intro h; first | (exact Bool.noConfusion h) | (exact absurd h (by decide)) | ((simp only [decide_eq_true_eq, decide_eq_false_iff_not, beq_iff_eq, bne_iff_ne, ne_eq, beq_eq_false_iff_ne, bne_eq_false_iff_eq, Bool.not_eq_true', Bool.not_eq_false', Bool.not_eq_true, Bool.not_eq_false, Int.not_le, Int.not_lt, Bool.and_eq_true, Bool.or_eq_true, Bool.or_eq_false_iff, Bool.and_eq_false_iff] at h); (try (first | (exact Bool.noConfusion h) | (exact (h trivial).elim)))) | skip) | (first | (refine ex_nat (q := 0) (by decide +kernel) (by decide +kernel) ?_) | (refine ex_nat (q := 1) (by decide +kernel) (by decide +kernel) ?_) | (refine ex_nat (q := 2) (by decide +kernel) (by decide +kernel) ?_) | (refine ex_nat (q := 3) (by decide +kernel) (by decide +kernel) ?_)) | ((with_reducible refine (?_ : chk _ _ = true)); kernel_rfl) | exact trivial | (refine Exists.intro _ (And.intro rfl ?_)))
    · refine ⟨(_, _, _, _, _, _, _, _, _, _), ?_, ?_, none, And.intro rfl (And.intro (by repeat' (first | exact trivial | exact rfl | (refine And.intro ?_ ?_))) (by repeat' (first | exact trivial | exact rfl | (refine And.intro ?_ ?_))))⟩
      · dsimp only
        rw [show wrap64 (0 + 1) = 1 by decide +kernel]
        refine ⟨by decide, by decide, ?_⟩
        show _ = sqF _ _ (3 * 4 + 0 + 1)
        rw [sqF, show sqF [a, b, c, d] [e, f, g, o] (3 * 4 + 0) = _ from k2.symm]
        rfl
      · dsimp only
        rw [show wrap64 (0 + 1) = 1 by decide +kernel]
        decide
    · refine ⟨(_, _, _, _, _, _, _, _, _, _), ?_, ?_, none, And.intro rfl (And.intro (by repeat' (first | exact trivial | exact rfl | (refine And.intro ?_ ?_))) (by repeat' (first | exact trivial | exact rfl | (refine And.intro ?_ ?_))))⟩
      · dsimp only
        rw [show wrap64 (1 + 1) = 2 by decide +kernel]
        refine ⟨by decide, by decide, ?_⟩
        show _ = sqF _ _ (3 * 4 + 1 + 1)
        rw [sqF, show sqF [a, b, c, d] [e, f, g, o] (3 * 4 + 1) = _ from k2.symm]
        rfl
      · dsimp only
        rw [show wrap64 (1 + 1) = 2 by decide +kernel]
        decide
    · refine ⟨(_, _, _, _, _, _, _, _, _, _), ?_, ?_, none, And.intro rfl (And.intro (by repeat' (first | exact trivial | exact rfl | (refine And.intro ?_ ?_))) (by repeat' (first | exact trivial | exact rfl | (refine And.intro ?_ ?_))))⟩
      · dsimp only
        rw [show wrap64 (2 + 1) = 3 by decide +kernel]
        refine ⟨by decide, by decide, ?_⟩
        show _ = sqF _ _ (3 * 4 + 2 + 1)
        rw [sqF, show sqF [a, b, c, d] [e, f, g, o] (3 * 4 + 2) = _ from k2.symm]
        rfl
      · dsimp only
        rw [show wrap64 (2 + 1) = 3 by decide +kernel]
        decide
    · refine ⟨(_, _, _, _, _, _, _, _, _, _), ?_, ?_, none, And.intro rfl (And.intro (by repeat' (first | exact trivial | exact rfl | (refine And.intro ?_ ?_))) (by repeat' (first | exact trivial | exact rfl | (refine And.intro ?_ ?_))))⟩
      · dsimp only
        rw [show wrap64 (3 + 1) = 4 by decide +kernel]
        refine ⟨by decide, by decide, ?_⟩
        show _ = sqF _ _ (3 * 4 + 3 + 1)
        rw [sqF, show sqF [a, b, c, d] [e, f, g, o] (3 * 4 + 3) = _ from k2.symm]
        rfl
      · dsimp only
        rw [show wrap64 (3 + 1) = 4 by decide +kernel]
        decide
    · refine ⟨(_, _, _, _, _, _, _, _, _, _), ?_, ?_, none, And.intro rfl (And.intro (by repeat' (first | exact trivial | exact rfl | (refine And.intro ?_ ?_))) (by repeat' (first | exact trivial | exact rfl | (refine And.intro ?_ ?_))))⟩
      · dsimp only
        rw [show wrap64 (3 + 1) = 4 by decide +kernel]
        exact ⟨by decide, by decide, k2⟩
      · dsimp only
        rw [show wrap64 (3 + 1) = 4 by decide +kernel]
        decide
  repeat' (first | ((with_reducible refine (?_ : (_ : Bool) = _)); (with_reducible rfl)) | ((with_reducible refine (?_ : (_ : Nat × Nat) = _)); (with_reducible rfl)) | (with_reducible refine leafRI ?_) | (with_reducible refine leafRB ?_) | (with_reducible refine leafI ?_) | (with_reducible refine leafB ?_) | ((with_reducible refine (?_ : (_ : Int) = _)); (with_reducible rfl)) | ((with_reducible refine (?_ : (_ : List (List Value)) = _)); (with_reducible rfl)) | ((with_reducible refine (?_ : (_ : Int) ≠ 0)); (first | assumption | omega | (simp; done) | (simp only [ints_len] at *; omega) | (simp; omega))) | ((with_reducible refine (?_ : (_ : Int) ≤ _)); (first | assumption | omega | (simp; done) | (simp only [ints_len] at *; omega) | (simp; omega))) | ((with_reducible refine (?_ : (_ : Int) < _)); (first | assumption | omega | (simp; done) | (simp only [ints_len] at *; omega) | (simp; omega))) | ((with_reducible refine (?_ : (_ : Nat) ≤ _)); (first | omega | (simp only [List.length_cons, List.length_nil]; omega) | (simp [ints]; done) | (simp; omega))) | ((with_reducible refine (?_ : (_ : Nat) < _)); (first | omega | (simp only [List.length_cons, List.length_nil]; omega) | (simp [ints]; done) | (simp; omega))) | ((with_reducible refine (?_ : (_ : Nat) = _)); (first | (with_reducible rfl) | (simp; done) | (simp only [fr_len]) | (simp only [ints_len]) | omega | (simp [*]; done))) | (refine And.intro ?_ ?_) | (intro h; first | (exact Bool.noConfusion h) | (exact absurd h (by decide)) | ((simp only [decide_eq_true_eq, decide_eq_false_iff_not, beq_iff_eq, bne_iff_ne, ne_eq, beq_eq_false_iff_ne, bne_eq_false_iff_eq, Bool.not_eq_true', Bool.not_eq_false', Bool.not_eq_true, Bool.not_eq_false, Int.not_le, Int.not_lt, Bool.and_eq_true, Bool.or_eq_true, Bool.or_eq_false_iff, Bool.and_eq_false_iff] at h); (try (first | (exact Bool.noConfusion h) | (exact (h trivial).elim)))) | skip) | (first | (refine ex_nat (q := 0) (by decide +kernel) (by decide +kernel) ?_) | (refine ex_nat (q := 1) (by decide +kernel) (by decide +kernel) ?_) | (refine ex_nat (q := 2) (by decide +kernel) (by decide +kernel) ?_) | (refine ex_nat (q := 3) (by decide +kernel) (by decide +kernel) ?_)) | ((with_reducible refine (?_ : chk _ _ = true)); kernel_rfl) | exact trivial | (refine Exists.intro _ (And.intro rfl ?_)))
  all_goals (rcases hh with hh | hh)
  all_goals first | omega | (simp only [List.cons.injEq, and_true] at hh; omega)
end Go.Proofs.Ytfljlpijhagloaa
