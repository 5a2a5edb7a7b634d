/- SolutionModulo: the searches, the law. -/
import Derived.Test.YtfcndlagnhaafaaF11
namespace Go.Proofs.Ytfcndlagnhaafaa
set_option linter.unusedSimpArgs false
set_option linter.unusedVariables false
open Go.RowKit
set_option maxRecDepth 100000
set_option maxHeartbeats 2000000

/-- No solution below index n. -/
def none_ (a b p q n : Int) : Prop := ∀ j, 0 ≤ j → j < n → ¬ hit a b p q j
theorem none_step {a b p q n : Int} (h : none_ a b p q n) (hn : ¬ hit a b p q n) : none_ a b p q (n + 1) := fun j h1 h2 => by
  by_cases e : j = n
  · rw [e]; exact hn
  · exact h j h1 (by omega)

theorem pow_dbl {p : Int} (hp : 2 ≤ p) (n : Nat) : 2 * p ^ n ≤ p ^ (n + 1) := by
  have h0 : 0 < p ^ n := Int.pow_pos (by omega)
  have := Int.mul_le_mul_of_nonneg_left hp (show 0 ≤ p ^ n by omega)
  rw [Int.pow_succ]; omega
theorem pow_big {p k : Int} (hp : 2 ≤ p) (hk : 7 ≤ k) : 64 < p ^ k.toNat := by
  obtain ⟨m, hm⟩ : ∃ m : Nat, k.toNat = m + 7 := ⟨k.toNat - 7, by omega⟩
  have h0 : 0 < p ^ m := Int.pow_pos (by omega)
  have e1 := pow_dbl hp m
  have e2 := pow_dbl hp (m + 1)
  have e3 := pow_dbl hp (m + 2)
  have e4 := pow_dbl hp (m + 3)
  have e5 := pow_dbl hp (m + 4)
  have e6 := pow_dbl hp (m + 5)
  have e7 := pow_dbl hp (m + 6)
  simp only [Nat.add_assoc, Nat.reduceAdd] at *
  rw [hm]; omega
/-- The power is small if and only if it is one of the few that are tried. -/
theorem small_iff {p k : Int} (hp : 2 ≤ p) : (1 ≤ k ∧ p ^ k.toNat ≤ 64) ↔ (1 ≤ k ∧ k ≤ 6 ∧ 1 ≤ rpw p k ∧ rpw p k ≤ 64) := by
  have h0 : 0 < p ^ k.toNat := Int.pow_pos (by omega)
  constructor
  · rintro ⟨h1, h2⟩
    have h3 : k ≤ 6 := by
      by_cases h : 7 ≤ k
      · have := pow_big hp h; omega
      · omega
    exact ⟨h1, h3, by rw [rpw, if_pos (by omega)]; omega, by rw [rpw, if_pos (by omega)]; omega⟩
  · rintro ⟨h1, h2, h3, h4⟩
    refine ⟨h1, ?_⟩
    rw [rpw] at h3 h4
    split at h4 <;> omega

theorem found {a b p k Q x y z : Int} (hQ : p ^ k.toNat = Q) (hG : smG a b p k = true) (hx : 0 ≤ x) (hxq : x < Q) (hy : 0 ≤ y) (hyq : y < Q) (hz : 0 ≤ z) (hzq : z < Q) (hn : none_ a b p Q ((x * Q + y) * Q + z)) (hh : hit3 a b p Q x y z) :
    x = (smX a b p k).1 ∧ y = (smX a b p k).2.1 ∧ z = (smX a b p k).2.2 ∧ true = smB a b p k := by
  have h1 := Int.mul_nonneg hx (show 0 ≤ Q by omega)
  have h2 := Int.mul_nonneg (show 0 ≤ x * Q + y by omega) (show 0 ≤ Q by omega)
  have h3 := Int.mul_le_mul_of_nonneg_right (show x + 1 ≤ Q by omega) (show 0 ≤ Q by omega)
  rw [Int.add_mul] at h3
  have h4 := Int.mul_le_mul_of_nonneg_right (show x * Q + y + 1 ≤ Q * Q by omega) (show 0 ≤ Q by omega)
  rw [Int.add_mul _ 1] at h4
  have hI : hit a b p Q ((x * Q + y) * Q + z) := (hit_dig hx hy hyq hz hzq).2 hh
  have f1 : smI a b p k = (x * Q + y) * Q + z := by rw [smI, hQ]; exact firstI_eq (by omega) hI hn
  have f2 : smB a b p k = true := by rw [smB, hG, hQ, exI_yes (i := (x * Q + y) * Q + z) (by omega) (by omega) hI]; rfl
  have d1 := dig (q := x * Q + y) (p := Q) (by omega) hz hzq
  have d2 := dig (p := Q) hx hy hyq
  refine ⟨?_, ?_, ?_, f2.symm⟩ <;> rw [smX, if_pos f2, f1, hQ] <;> simp only [d1.1, d1.2, d2.1, d2.2]
theorem nothing {a b p k Q : Int} (hQ : p ^ k.toNat = Q) (hn : none_ a b p Q (Q * Q * Q)) : (0 : Int) = (smX a b p k).1 ∧ (0 : Int) = (smX a b p k).2.1 ∧ (0 : Int) = (smX a b p k).2.2 ∧ false = smB a b p k := by
  have f2 : smB a b p k = false := by rw [smB, hQ, exI_no (Int.le_refl _) hn]; simp
  rw [smX, f2]; simp

theorem spec_SolutionModulo (a b p k : Int) : AFun Try.prog 16 [] [I a, I b, I p, I k] (P4 (smX a b p k).1 (smX a b p k).2.1 (smX a b p k).2.2 (smB a b p k)) [] [] := by
  have hp : num p = true → prime p = true → 2 ≤ p ∧ p ≤ 1000000 := fun h h' => ⟨(prime_iff.1 h').1, (num_iff.1 h).2⟩
  refine afun_intro fn16 rfl rfl (by repeat' (first | exact trivial | (simp; done) | refine ⟨?_, ?_⟩)) ?_
  unfold ac16
  repeat' (first | ((with_reducible refine (?_ : (_ : Bool) = _)); (with_reducible rfl)) | ((with_reducible refine (?_ : (_ : Nat × Nat) = _)); (with_reducible rfl)) | (with_reducible refine leafRI ?_) | (with_reducible refine leafRB ?_) | (with_reducible refine leafI ?_) | (with_reducible refine leafB ?_) | ((with_reducible refine (?_ : (_ : Int) = _)); (with_reducible rfl)) | ((with_reducible refine (?_ : (_ : List (List Value)) = _)); (with_reducible rfl)) | ((with_reducible refine (?_ : (_ : Int) ≠ 0)); (first | assumption | omega | (simp; done) | (simp only [ints_len] at *; omega) | (simp; omega))) | ((with_reducible refine (?_ : (_ : Int) ≤ _)); (first | assumption | omega | (simp; done) | (simp only [ints_len] at *; omega) | (simp; omega))) | ((with_reducible refine (?_ : (_ : Int) < _)); (first | assumption | omega | (simp; done) | (simp only [ints_len] at *; omega) | (simp; omega))) | ((with_reducible refine (?_ : (_ : Nat) ≤ _)); (first | omega | (simp only [List.length_cons, List.length_nil]; omega) | (simp [ints]; done) | (simp; omega))) | ((with_reducible refine (?_ : (_ : Nat) < _)); (first | omega | (simp only [List.length_cons, List.length_nil]; omega) | (simp [ints]; done) | (simp; omega))) | ((with_reducible refine (?_ : (_ : Nat) = _)); (first | (with_reducible rfl) | (simp; done) | (simp only [fr_len]) | (simp only [ints_len]) | omega | (simp [*]; done))) | (refine And.intro ?_ ?_) | (intro h; first | (exact Bool.noConfusion h) | ((simp only [decide_eq_true_eq, decide_eq_false_iff_not, beq_iff_eq, bne_iff_ne, ne_eq, beq_eq_false_iff_ne, bne_eq_false_iff_eq, Bool.not_eq_true', Bool.not_eq_false', Bool.not_eq_true, Bool.not_eq_false, Int.not_le, Int.not_lt, Bool.and_eq_true, Bool.or_eq_true, Bool.or_eq_false_iff, Bool.and_eq_false_iff] at h); (try (first | (exact Bool.noConfusion h) | (exact (h trivial).elim)))) | skip) | ((refine (?_ : ACall _ _ _ _ _ _ _)); first | ((apply acall (spec_hiGood _)); (focus (repeat' (first | exact rfl | (refine And.intro ?_ ?_) | (simp only [ints_len]; done) | (simp; done) | omega)))) | ((apply acall (spec_hiPlace _)); (focus (repeat' (first | exact rfl | (refine And.intro ?_ ?_) | (simp only [ints_len]; done) | (simp; done) | omega)))) | ((apply acall (spec_l1In _ _ _)); (focus (repeat' (first | exact rfl | (refine And.intro ?_ ?_) | (simp only [ints_len]; done) | (simp; done) | omega)))) | ((apply acall (spec_roPower _ _ ?_ ?_ ?_ ?_)); (focus (repeat' (first | exact rfl | (refine And.intro ?_ ?_) | (simp only [ints_len]; done) | (simp; done) | omega))))) | ((with_reducible refine (?_ : chk _ _ = true)); kernel_rfl) | ((with_reducible refine (?_ : (_ : IntKind) = _)); (with_reducible rfl)) | ((with_reducible refine (?_ : eqC (C.pvw _ _ _) (C.pvw _ _ _))); exact rfl) | ((with_reducible refine (?_ : eqC (C.pv (Value.int IntKind.u64 _)) _)); exact rfl) | exact trivial)
  any_goals (first | (with_reducible refine (?_ : (_ : Int) = _)) | (with_reducible refine (?_ : (_ : Bool) = _))); (have key : smG a b p k = false := by unfold smG; (have hs := @small_iff p k); grind); simp [smX, smB, key]
  · have hp2 := hp (by grind) (by grind)
    have hQ : p ^ k.toNat = rpw p k := by rw [rpw] at *; split at * <;> first | omega | (rw [if_pos (by assumption)]) | grind
    have hG : smG a b p k = true := by unfold smG; (have hs := @small_iff p k); grind
    generalize rpw p k = Q at *
    refine loop_rule (σ := Int) (fun s => [(13, I s)]) (fun _ => []) (fun s => 0 ≤ s ∧ s ≤ Q ∧ none_ a b p Q (s * Q * Q)) (fun s => (Q - s).toNat) (0) ?_ (by repeat' (first | exact trivial | exact rfl | (refine And.intro ?_ ?_))) trivial (fun s => ⟨rfl, rfl⟩) (fun s i h => by first | exact absurd h (Nat.not_lt_zero i) | (cases i with | zero => rfl | succ i => exact absurd (Nat.lt_of_succ_lt_succ h) (Nat.not_lt_zero i))) ?_
    · exact ⟨by omega, by omega, fun j h1 h2 => by simp at h2; omega⟩
    · rintro x ⟨g1, g2, g3⟩
      repeat' (first | ((with_reducible refine (?_ : (_ : Bool) = _)); (with_reducible rfl)) | ((with_reducible refine (?_ : (_ : Nat × Nat) = _)); (with_reducible rfl)) | (with_reducible refine leafRI ?_) | (with_reducible refine leafRB ?_) | (with_reducible refine leafI ?_) | (with_reducible refine leafB ?_) | ((with_reducible refine (?_ : (_ : Int) = _)); (with_reducible rfl)) | ((with_reducible refine (?_ : (_ : List (List Value)) = _)); (with_reducible rfl)) | ((with_reducible refine (?_ : (_ : Int) ≠ 0)); (first | assumption | omega | (simp; done) | (simp only [ints_len] at *; omega) | (simp; omega))) | ((with_reducible refine (?_ : (_ : Int) ≤ _)); (first | assumption | omega | (simp; done) | (simp only [ints_len] at *; omega) | (simp; omega))) | ((with_reducible refine (?_ : (_ : Int) < _)); (first | assumption | omega | (simp; done) | (simp only [ints_len] at *; omega) | (simp; omega))) | ((with_reducible refine (?_ : (_ : Nat) ≤ _)); (first | omega | (simp only [List.length_cons, List.length_nil]; omega) | (simp [ints]; done) | (simp; omega))) | ((with_reducible refine (?_ : (_ : Nat) < _)); (first | omega | (simp only [List.length_cons, List.length_nil]; omega) | (simp [ints]; done) | (simp; omega))) | ((with_reducible refine (?_ : (_ : Nat) = _)); (first | (with_reducible rfl) | (simp; done) | (simp only [fr_len]) | (simp only [ints_len]) | omega | (simp [*]; done))) | (refine And.intro ?_ ?_) | (intro h; first | (exact Bool.noConfusion h) | ((simp only [decide_eq_true_eq, decide_eq_false_iff_not, beq_iff_eq, bne_iff_ne, ne_eq, beq_eq_false_iff_ne, bne_eq_false_iff_eq, Bool.not_eq_true', Bool.not_eq_false', Bool.not_eq_true, Bool.not_eq_false, Int.not_le, Int.not_lt, Bool.and_eq_true, Bool.or_eq_true, Bool.or_eq_false_iff, Bool.and_eq_false_iff] at h); (try (first | (exact Bool.noConfusion h) | (exact (h trivial).elim)))) | skip) | ((with_reducible refine (?_ : chk _ _ = true)); kernel_rfl) | ((with_reducible refine (?_ : (_ : IntKind) = _)); (with_reducible rfl)) | ((with_reducible refine (?_ : eqC (C.pvw _ _ _) (C.pvw _ _ _))); exact rfl) | ((with_reducible refine (?_ : eqC (C.pv (Value.int IntKind.u64 _)) _)); exact rfl) | exact trivial)
      · refine loop_rule (σ := Int) (fun s => [(14, I s)]) (fun _ => []) (fun s => 0 ≤ s ∧ s ≤ Q ∧ none_ a b p Q ((x * Q + s) * Q)) (fun s => (Q - s).toNat) (0) ?_ (by repeat' (first | exact trivial | exact rfl | (refine And.intro ?_ ?_))) trivial (fun s => ⟨rfl, rfl⟩) (fun s i h => by first | exact absurd h (Nat.not_lt_zero i) | (cases i with | zero => rfl | succ i => exact absurd (Nat.lt_of_succ_lt_succ h) (Nat.not_lt_zero i))) ?_
        · exact ⟨by omega, by omega, by simpa using g3⟩
        · rintro y ⟨e1, e2, e3⟩
          repeat' (first | ((with_reducible refine (?_ : (_ : Bool) = _)); (with_reducible rfl)) | ((with_reducible refine (?_ : (_ : Nat × Nat) = _)); (with_reducible rfl)) | (with_reducible refine leafRI ?_) | (with_reducible refine leafRB ?_) | (with_reducible refine leafI ?_) | (with_reducible refine leafB ?_) | ((with_reducible refine (?_ : (_ : Int) = _)); (with_reducible rfl)) | ((with_reducible refine (?_ : (_ : List (List Value)) = _)); (with_reducible rfl)) | ((with_reducible refine (?_ : (_ : Int) ≠ 0)); (first | assumption | omega | (simp; done) | (simp only [ints_len] at *; omega) | (simp; omega))) | ((with_reducible refine (?_ : (_ : Int) ≤ _)); (first | assumption | omega | (simp; done) | (simp only [ints_len] at *; omega) | (simp; omega))) | ((with_reducible refine (?_ : (_ : Int) < _)); (first | assumption | omega | (simp; done) | (simp only [ints_len] at *; omega) | (simp; omega))) | ((with_reducible refine (?_ : (_ : Nat) ≤ _)); (first | omega | (simp only [List.length_cons, List.length_nil]; omega) | (simp [ints]; done) | (simp; omega))) | ((with_reducible refine (?_ : (_ : Nat) < _)); (first | omega | (simp only [List.length_cons, List.length_nil]; omega) | (simp [ints]; done) | (simp; omega))) | ((with_reducible refine (?_ : (_ : Nat) = _)); (first | (with_reducible rfl) | (simp; done) | (simp only [fr_len]) | (simp only [ints_len]) | omega | (simp [*]; done))) | (refine And.intro ?_ ?_) | (intro h; first | (exact Bool.noConfusion h) | ((simp only [decide_eq_true_eq, decide_eq_false_iff_not, beq_iff_eq, bne_iff_ne, ne_eq, beq_eq_false_iff_ne, bne_eq_false_iff_eq, Bool.not_eq_true', Bool.not_eq_false', Bool.not_eq_true, Bool.not_eq_false, Int.not_le, Int.not_lt, Bool.and_eq_true, Bool.or_eq_true, Bool.or_eq_false_iff, Bool.and_eq_false_iff] at h); (try (first | (exact Bool.noConfusion h) | (exact (h trivial).elim)))) | skip) | ((with_reducible refine (?_ : chk _ _ = true)); kernel_rfl) | ((with_reducible refine (?_ : (_ : IntKind) = _)); (with_reducible rfl)) | ((with_reducible refine (?_ : eqC (C.pvw _ _ _) (C.pvw _ _ _))); exact rfl) | ((with_reducible refine (?_ : eqC (C.pv (Value.int IntKind.u64 _)) _)); exact rfl) | exact trivial)
          · refine loop_rule (σ := Int) (fun s => [(15, I s)]) (fun _ => []) (fun s => 0 ≤ s ∧ s ≤ Q ∧ none_ a b p Q ((x * Q + y) * Q + s)) (fun s => (Q - s).toNat) (0) ?_ (by repeat' (first | exact trivial | exact rfl | (refine And.intro ?_ ?_))) trivial (fun s => ⟨rfl, rfl⟩) (fun s i h => by first | exact absurd h (Nat.not_lt_zero i) | (cases i with | zero => rfl | succ i => exact absurd (Nat.lt_of_succ_lt_succ h) (Nat.not_lt_zero i))) ?_
            · exact ⟨by omega, by omega, by simpa using e3⟩
            · rintro z ⟨d1, d2, d3⟩
              have fy : z < Q → hit3 a b p Q x y z → x = (smX a b p k).1 ∧ y = (smX a b p k).2.1 ∧ z = (smX a b p k).2.2 ∧ true = smB a b p k := fun h1 h2 => found hQ hG g1 (by assumption) e1 (by assumption) d1 h1 d3 h2
              have fn : z < Q → ¬ hit3 a b p Q x y z → none_ a b p Q ((x * Q + y) * Q + (z + 1)) := fun h1 h2 => by
                rw [← Int.add_assoc]
                exact none_step d3 (fun hc => h2 ((hit_dig g1 e1 (by assumption) d1 h1).1 hc))
              unfold hit3 sv at fy fn
              repeat' (first | ((with_reducible refine (?_ : (_ : Bool) = _)); (with_reducible rfl)) | ((with_reducible refine (?_ : (_ : Nat × Nat) = _)); (with_reducible rfl)) | (with_reducible refine leafRI ?_) | (with_reducible refine leafRB ?_) | (with_reducible refine leafI ?_) | (with_reducible refine leafB ?_) | ((with_reducible refine (?_ : (_ : Int) = _)); (with_reducible rfl)) | ((with_reducible refine (?_ : (_ : List (List Value)) = _)); (with_reducible rfl)) | ((with_reducible refine (?_ : (_ : Int) ≠ 0)); (first | assumption | omega | (simp; done) | (simp only [ints_len] at *; omega) | (simp; omega))) | ((with_reducible refine (?_ : (_ : Int) ≤ _)); (first | assumption | omega | (simp; done) | (simp only [ints_len] at *; omega) | (simp; omega))) | ((with_reducible refine (?_ : (_ : Int) < _)); (first | assumption | omega | (simp; done) | (simp only [ints_len] at *; omega) | (simp; omega))) | ((with_reducible refine (?_ : (_ : Nat) ≤ _)); (first | omega | (simp only [List.length_cons, List.length_nil]; omega) | (simp [ints]; done) | (simp; omega))) | ((with_reducible refine (?_ : (_ : Nat) < _)); (first | omega | (simp only [List.length_cons, List.length_nil]; omega) | (simp [ints]; done) | (simp; omega))) | ((with_reducible refine (?_ : (_ : Nat) = _)); (first | (with_reducible rfl) | (simp; done) | (simp only [fr_len]) | (simp only [ints_len]) | omega | (simp [*]; done))) | (refine And.intro ?_ ?_) | (intro h; first | (exact Bool.noConfusion h) | ((simp only [decide_eq_true_eq, decide_eq_false_iff_not, beq_iff_eq, bne_iff_ne, ne_eq, beq_eq_false_iff_ne, bne_eq_false_iff_eq, Bool.not_eq_true', Bool.not_eq_false', Bool.not_eq_true, Bool.not_eq_false, Int.not_le, Int.not_lt, Bool.and_eq_true, Bool.or_eq_true, Bool.or_eq_false_iff, Bool.and_eq_false_iff] at h); (try (first | (exact Bool.noConfusion h) | (exact (h trivial).elim)))) | skip) | ((with_reducible refine (?_ : chk _ _ = true)); kernel_rfl) | ((with_reducible refine (?_ : (_ : IntKind) = _)); (with_reducible rfl)) | ((with_reducible refine (?_ : eqC (C.pvw _ _ _) (C.pvw _ _ _))); exact rfl) | ((with_reducible refine (?_ : eqC (C.pv (Value.int IntKind.u64 _)) _)); exact rfl) | exact trivial)
              any_goals ((refine ⟨wrap64 (z + 1), ?_, ?_, none, And.intro rfl (And.intro ?_ ?_)⟩); (rotate_left 2); (focus ((repeat' (first | exact trivial | exact rfl | (refine And.intro ?_ ?_))); done)); (focus ((repeat' (first | exact trivial | exact rfl | (refine And.intro ?_ ?_))); done)))
              any_goals (with_reducible refine (?_ : (_ : Int) = _)); grind
              any_goals (with_reducible refine (?_ : (_ : Bool) = _)); grind
              any_goals (with_reducible refine (?_ : (_ : Nat) < _)); rw [wrap_small (n := z + 1) (by omega) (by omega)]; omega
              any_goals (with_reducible refine (?_ : (_ ∧ _ ∧ _))); rw [wrap_small (n := z + 1) (by omega) (by omega)]; exact ⟨by omega, by omega, by grind⟩
              · refine ⟨(wrap64 (y + 1)), ?_, ?_, none, And.intro rfl (And.intro (by repeat' (first | exact trivial | exact rfl | (refine And.intro ?_ ?_))) (by repeat' (first | exact trivial | exact rfl | (refine And.intro ?_ ?_))))⟩
                · rw [wrap_small (n := y + 1) (by omega) (by omega)]
                  refine ⟨by omega, by omega, ?_⟩
                  rw [show (x * Q + (y + 1)) * Q = (x * Q + y) * Q + Q by rw [← Int.add_assoc, Int.add_mul _ 1]; omega]
                  rw [show z = Q by omega] at d3
                  exact d3
                · rw [wrap_small (n := y + 1) (by omega) (by omega)]
                  omega
          · refine ⟨(wrap64 (x + 1)), ?_, ?_, none, And.intro rfl (And.intro (by repeat' (first | exact trivial | exact rfl | (refine And.intro ?_ ?_))) (by repeat' (first | exact trivial | exact rfl | (refine And.intro ?_ ?_))))⟩
            · rw [wrap_small (n := x + 1) (by omega) (by omega)]
              refine ⟨by omega, by omega, ?_⟩
              rw [show (x + 1) * Q * Q = (x * Q + Q) * Q by rw [Int.add_mul, Int.one_mul]]
              rw [show y = Q by omega] at e3
              exact e3
            · rw [wrap_small (n := x + 1) (by omega) (by omega)]
              omega
      all_goals (rw [show x = Q by omega] at g3; have hx := nothing hQ g3; grind)
  all_goals (have hp2 := hp (by grind) (by grind); omega)

theorem impl_SolutionModulo (a b p k : Int) (_lk : -9223372036854775808 ≤ k) (_uk : k ≤ 9223372036854775807) : AFun Try.prog 15 [] [I a, I b, I p, I k] (P4 (smX a b p k).1 (smX a b p k).2.1 (smX a b p k).2.2 (smB a b p k)) [] [] := by
  have hp : num p = true → prime p = true → 2 ≤ p ∧ p ≤ 1000000 := fun h h' => ⟨(prime_iff.1 h').1, (num_iff.1 h).2⟩
  refine afun_intro fn15 rfl rfl (by repeat' (first | exact trivial | (simp; done) | refine ⟨?_, ?_⟩)) ?_
  unfold ac15
  repeat' (first | ((with_reducible refine (?_ : (_ : Bool) = _)); (with_reducible rfl)) | ((with_reducible refine (?_ : (_ : Nat × Nat) = _)); (with_reducible rfl)) | (with_reducible refine leafRI ?_) | (with_reducible refine leafRB ?_) | (with_reducible refine leafI ?_) | (with_reducible refine leafB ?_) | ((with_reducible refine (?_ : (_ : Int) = _)); (with_reducible rfl)) | ((with_reducible refine (?_ : (_ : List (List Value)) = _)); (with_reducible rfl)) | ((with_reducible refine (?_ : (_ : Int) ≠ 0)); (first | assumption | omega | (simp; done) | (simp only [ints_len] at *; omega) | (simp; omega))) | ((with_reducible refine (?_ : (_ : Int) ≤ _)); (first | assumption | omega | (simp; done) | (simp only [ints_len] at *; omega) | (simp; omega))) | ((with_reducible refine (?_ : (_ : Int) < _)); (first | assumption | omega | (simp; done) | (simp only [ints_len] at *; omega) | (simp; omega))) | ((with_reducible refine (?_ : (_ : Nat) ≤ _)); (first | omega | (simp only [List.length_cons, List.length_nil]; omega) | (simp [ints]; done) | (simp; omega))) | ((with_reducible refine (?_ : (_ : Nat) < _)); (first | omega | (simp only [List.length_cons, List.length_nil]; omega) | (simp [ints]; done) | (simp; omega))) | ((with_reducible refine (?_ : (_ : Nat) = _)); (first | (with_reducible rfl) | (simp; done) | (simp only [fr_len]) | (simp only [ints_len]) | omega | (simp [*]; done))) | (refine And.intro ?_ ?_) | (intro h; first | (exact Bool.noConfusion h) | ((simp only [decide_eq_true_eq, decide_eq_false_iff_not, beq_iff_eq, bne_iff_ne, ne_eq, beq_eq_false_iff_ne, bne_eq_false_iff_eq, Bool.not_eq_true', Bool.not_eq_false', Bool.not_eq_true, Bool.not_eq_false, Int.not_le, Int.not_lt, Bool.and_eq_true, Bool.or_eq_true, Bool.or_eq_false_iff, Bool.and_eq_false_iff] at h); (try (first | (exact Bool.noConfusion h) | (exact (h trivial).elim)))) | skip) | ((refine (?_ : ACall _ _ _ _ _ _ _)); first | ((apply acall (impl_areOther [a, b] (by simp))); (focus (repeat' (first | exact rfl | (refine And.intro ?_ ?_) | (simp only [ints_len]; done) | (simp; done) | omega)))) | ((apply acall (impl_IsPrime _)); (focus (repeat' (first | exact rfl | (refine And.intro ?_ ?_) | (simp only [ints_len]; done) | (simp; done) | omega))))) | ((with_reducible refine (?_ : chk _ _ = true)); kernel_rfl) | ((with_reducible refine (?_ : (_ : IntKind) = _)); (with_reducible rfl)) | ((with_reducible refine (?_ : eqC (C.pvw _ _ _) (C.pvw _ _ _))); exact rfl) | ((with_reducible refine (?_ : eqC (C.pv (Value.int IntKind.u64 _)) _)); exact rfl) | exact trivial)
  any_goals (first | (with_reducible refine (?_ : (_ : Int) = _)) | (with_reducible refine (?_ : (_ : Bool) = _))); (have key : smG a b p k = false := by unfold smG; simp only [List.all_cons, List.all_nil] at *; grind); simp [smX, smB, key]
  have hp2 := hp (by grind) (by grind)
  refine loop_rule (σ := Int × Int) (fun s => [(3, I s.1), (12, I s.2)]) (fun s => [((18, 0), .fl 3 1 (ints [a, b]))]) (fun s => 0 ≤ s.1 ∧ s.1 ≤ k ∧ 1 ≤ s.2 ∧ s.2 ≤ 64000000 ∧ s.2 * p ^ s.1.toNat = p ^ k.toNat) (fun s => s.1.toNat) ((k, 1)) ?_ (by repeat' (first | exact trivial | exact rfl | (refine And.intro ?_ ?_))) (by repeat' (first | exact trivial | exact rfl | (refine And.intro ?_ ?_))) (fun s => ⟨rfl, rfl⟩) (fun s i h => by first | exact absurd h (Nat.not_lt_zero i) | (cases i with | zero => rfl | succ i => exact absurd (Nat.lt_of_succ_lt_succ h) (Nat.not_lt_zero i))) ?_
  · exact ⟨by dsimp only; omega, by dsimp only; omega, by dsimp only; omega, by dsimp only; omega, by simp⟩
  · rintro ⟨j, Q⟩ ⟨g1, g2, g3, g4, g5⟩
    dsimp only at g1 g2 g3 g4 g5
    have q0 : 0 < Q * p := Int.mul_pos (by omega) (by omega)
    have q1 : Q ≤ 64 → Q * p ≤ 64000000 := fun h => by
      have := Int.mul_le_mul (show Q ≤ 64 from h) hp2.2 (by omega) (by omega); omega
    have hj : 0 < j → Q * p * p ^ (j - 1).toNat = p ^ k.toNat := fun h => by
      rw [← g5, show j.toNat = (j - 1).toNat + 1 by omega, Int.pow_succ, Int.mul_assoc, Int.mul_comm p]
    have pp : 0 < p ^ j.toNat := Int.pow_pos (by omega)
    have hbig : 64 < Q → smG a b p k = false := fun h => by
      have := Int.mul_le_mul_of_nonneg_left (show 1 ≤ p ^ j.toNat by omega) (show 0 ≤ Q by omega)
      have : ¬ p ^ k.toNat ≤ 64 := by rw [← g5]; omega
      simp [smG, this]
    repeat' (first | ((with_reducible refine (?_ : (_ : Bool) = _)); (with_reducible rfl)) | ((with_reducible refine (?_ : (_ : Nat × Nat) = _)); (with_reducible rfl)) | (with_reducible refine leafRI ?_) | (with_reducible refine leafRB ?_) | (with_reducible refine leafI ?_) | (with_reducible refine leafB ?_) | ((with_reducible refine (?_ : (_ : Int) = _)); (with_reducible rfl)) | ((with_reducible refine (?_ : (_ : List (List Value)) = _)); (with_reducible rfl)) | ((with_reducible refine (?_ : (_ : Int) ≠ 0)); (first | assumption | omega | (simp; done) | (simp only [ints_len] at *; omega) | (simp; omega))) | ((with_reducible refine (?_ : (_ : Int) ≤ _)); (first | assumption | omega | (simp; done) | (simp only [ints_len] at *; omega) | (simp; omega))) | ((with_reducible refine (?_ : (_ : Int) < _)); (first | assumption | omega | (simp; done) | (simp only [ints_len] at *; omega) | (simp; omega))) | ((with_reducible refine (?_ : (_ : Nat) ≤ _)); (first | omega | (simp only [List.length_cons, List.length_nil]; omega) | (simp [ints]; done) | (simp; omega))) | ((with_reducible refine (?_ : (_ : Nat) < _)); (first | omega | (simp only [List.length_cons, List.length_nil]; omega) | (simp [ints]; done) | (simp; omega))) | ((with_reducible refine (?_ : (_ : Nat) = _)); (first | (with_reducible rfl) | (simp; done) | (simp only [fr_len]) | (simp only [ints_len]) | omega | (simp [*]; done))) | (refine And.intro ?_ ?_) | (intro h; first | (exact Bool.noConfusion h) | ((simp only [decide_eq_true_eq, decide_eq_false_iff_not, beq_iff_eq, bne_iff_ne, ne_eq, beq_eq_false_iff_ne, bne_eq_false_iff_eq, Bool.not_eq_true', Bool.not_eq_false', Bool.not_eq_true, Bool.not_eq_false, Int.not_le, Int.not_lt, Bool.and_eq_true, Bool.or_eq_true, Bool.or_eq_false_iff, Bool.and_eq_false_iff] at h); (try (first | (exact Bool.noConfusion h) | (exact (h trivial).elim)))) | skip) | ((with_reducible refine (?_ : chk _ _ = true)); kernel_rfl) | ((with_reducible refine (?_ : (_ : IntKind) = _)); (with_reducible rfl)) | ((with_reducible refine (?_ : eqC (C.pvw _ _ _) (C.pvw _ _ _))); exact rfl) | ((with_reducible refine (?_ : eqC (C.pv (Value.int IntKind.u64 _)) _)); exact rfl) | exact trivial)
    any_goals (first | (with_reducible refine (?_ : (_ : Int) = _)) | (with_reducible refine (?_ : (_ : Bool) = _))); (have key := hbig (by omega); simp [smX, smB, key]; done)
    · rename_i h0
      have wq : wrap64 (Q * p) = Q * p := wrap_small (by omega) (by have := q1 h; omega)
      have wj : wrap64 (j - 1) = j - 1 := wrap_small (by omega) (by omega)
      refine ⟨(_, _), ?_, ?_, none, And.intro rfl (And.intro (by repeat' (first | exact trivial | exact rfl | (refine And.intro ?_ ?_))) (by repeat' (first | exact trivial | exact rfl | (refine And.intro ?_ ?_))))⟩
      · dsimp only
        rw [wq, wj]
        exact ⟨by omega, by omega, by omega, q1 h, hj h0⟩
      · dsimp only; omega
    · exfalso; omega
    · have hQ : p ^ k.toNat = Q := by rw [← g5, show j.toNat = 0 by omega, Int.pow_zero, Int.mul_one]
      have hG : smG a b p k = true := by unfold smG; simp only [List.all_cons, List.all_nil] at *; grind
      refine loop_rule (σ := Int) (fun s => [(13, I s)]) (fun s => [((18, 0), .fl 3 1 (ints [a, b]))]) (fun s => 0 ≤ s ∧ s ≤ Q ∧ none_ a b p Q (s * Q * Q)) (fun s => (Q - s).toNat) (0) ?_ (by repeat' (first | exact trivial | exact rfl | (refine And.intro ?_ ?_))) (by repeat' (first | exact trivial | exact rfl | (refine And.intro ?_ ?_))) (fun s => ⟨rfl, rfl⟩) (fun s i h => by first | exact absurd h (Nat.not_lt_zero i) | (cases i with | zero => rfl | succ i => exact absurd (Nat.lt_of_succ_lt_succ h) (Nat.not_lt_zero i))) ?_
      · exact ⟨by omega, by omega, fun j h1 h2 => by simp at h2; omega⟩
      · rintro x ⟨x1, x2, x3⟩
        repeat' (first | ((with_reducible refine (?_ : (_ : Bool) = _)); (with_reducible rfl)) | ((with_reducible refine (?_ : (_ : Nat × Nat) = _)); (with_reducible rfl)) | (with_reducible refine leafRI ?_) | (with_reducible refine leafRB ?_) | (with_reducible refine leafI ?_) | (with_reducible refine leafB ?_) | ((with_reducible refine (?_ : (_ : Int) = _)); (with_reducible rfl)) | ((with_reducible refine (?_ : (_ : List (List Value)) = _)); (with_reducible rfl)) | ((with_reducible refine (?_ : (_ : Int) ≠ 0)); (first | assumption | omega | (simp; done) | (simp only [ints_len] at *; omega) | (simp; omega))) | ((with_reducible refine (?_ : (_ : Int) ≤ _)); (first | assumption | omega | (simp; done) | (simp only [ints_len] at *; omega) | (simp; omega))) | ((with_reducible refine (?_ : (_ : Int) < _)); (first | assumption | omega | (simp; done) | (simp only [ints_len] at *; omega) | (simp; omega))) | ((with_reducible refine (?_ : (_ : Nat) ≤ _)); (first | omega | (simp only [List.length_cons, List.length_nil]; omega) | (simp [ints]; done) | (simp; omega))) | ((with_reducible refine (?_ : (_ : Nat) < _)); (first | omega | (simp only [List.length_cons, List.length_nil]; omega) | (simp [ints]; done) | (simp; omega))) | ((with_reducible refine (?_ : (_ : Nat) = _)); (first | (with_reducible rfl) | (simp; done) | (simp only [fr_len]) | (simp only [ints_len]) | omega | (simp [*]; done))) | (refine And.intro ?_ ?_) | (intro h; first | (exact Bool.noConfusion h) | ((simp only [decide_eq_true_eq, decide_eq_false_iff_not, beq_iff_eq, bne_iff_ne, ne_eq, beq_eq_false_iff_ne, bne_eq_false_iff_eq, Bool.not_eq_true', Bool.not_eq_false', Bool.not_eq_true, Bool.not_eq_false, Int.not_le, Int.not_lt, Bool.and_eq_true, Bool.or_eq_true, Bool.or_eq_false_iff, Bool.and_eq_false_iff] at h); (try (first | (exact Bool.noConfusion h) | (exact (h trivial).elim)))) | skip) | ((with_reducible refine (?_ : chk _ _ = true)); kernel_rfl) | ((with_reducible refine (?_ : (_ : IntKind) = _)); (with_reducible rfl)) | ((with_reducible refine (?_ : eqC (C.pvw _ _ _) (C.pvw _ _ _))); exact rfl) | ((with_reducible refine (?_ : eqC (C.pv (Value.int IntKind.u64 _)) _)); exact rfl) | exact trivial)
        · refine loop_rule (σ := Int) (fun s => [(14, I s)]) (fun s => [((18, 0), .fl 3 1 (ints [a, b]))]) (fun s => 0 ≤ s ∧ s ≤ Q ∧ none_ a b p Q ((x * Q + s) * Q)) (fun s => (Q - s).toNat) (0) ?_ (by repeat' (first | exact trivial | exact rfl | (refine And.intro ?_ ?_))) (by repeat' (first | exact trivial | exact rfl | (refine And.intro ?_ ?_))) (fun s => ⟨rfl, rfl⟩) (fun s i h => by first | exact absurd h (Nat.not_lt_zero i) | (cases i with | zero => rfl | succ i => exact absurd (Nat.lt_of_succ_lt_succ h) (Nat.not_lt_zero i))) ?_
          · exact ⟨by omega, by omega, by simpa using x3⟩
          · rintro y ⟨e1, e2, e3⟩
            repeat' (first | ((with_reducible refine (?_ : (_ : Bool) = _)); (with_reducible rfl)) | ((with_reducible refine (?_ : (_ : Nat × Nat) = _)); (with_reducible rfl)) | (with_reducible refine leafRI ?_) | (with_reducible refine leafRB ?_) | (with_reducible refine leafI ?_) | (with_reducible refine leafB ?_) | ((with_reducible refine (?_ : (_ : Int) = _)); (with_reducible rfl)) | ((with_reducible refine (?_ : (_ : List (List Value)) = _)); (with_reducible rfl)) | ((with_reducible refine (?_ : (_ : Int) ≠ 0)); (first | assumption | omega | (simp; done) | (simp only [ints_len] at *; omega) | (simp; omega))) | ((with_reducible refine (?_ : (_ : Int) ≤ _)); (first | assumption | omega | (simp; done) | (simp only [ints_len] at *; omega) | (simp; omega))) | ((with_reducible refine (?_ : (_ : Int) < _)); (first | assumption | omega | (simp; done) | (simp only [ints_len] at *; omega) | (simp; omega))) | ((with_reducible refine (?_ : (_ : Nat) ≤ _)); (first | omega | (simp only [List.length_cons, List.length_nil]; omega) | (simp [ints]; done) | (simp; omega))) | ((with_reducible refine (?_ : (_ : Nat) < _)); (first | omega | (simp only [List.length_cons, List.length_nil]; omega) | (simp [ints]; done) | (simp; omega))) | ((with_reducible refine (?_ : (_ : Nat) = _)); (first | (with_reducible rfl) | (simp; done) | (simp only [fr_len]) | (simp only [ints_len]) | omega | (simp [*]; done))) | (refine And.intro ?_ ?_) | (intro h; first | (exact Bool.noConfusion h) | ((simp only [decide_eq_true_eq, decide_eq_false_iff_not, beq_iff_eq, bne_iff_ne, ne_eq, beq_eq_false_iff_ne, bne_eq_false_iff_eq, Bool.not_eq_true', Bool.not_eq_false', Bool.not_eq_true, Bool.not_eq_false, Int.not_le, Int.not_lt, Bool.and_eq_true, Bool.or_eq_true, Bool.or_eq_false_iff, Bool.and_eq_false_iff] at h); (try (first | (exact Bool.noConfusion h) | (exact (h trivial).elim)))) | skip) | ((with_reducible refine (?_ : chk _ _ = true)); kernel_rfl) | ((with_reducible refine (?_ : (_ : IntKind) = _)); (with_reducible rfl)) | ((with_reducible refine (?_ : eqC (C.pvw _ _ _) (C.pvw _ _ _))); exact rfl) | ((with_reducible refine (?_ : eqC (C.pv (Value.int IntKind.u64 _)) _)); exact rfl) | exact trivial)
            · refine loop_rule (σ := Int) (fun s => [(15, I s)]) (fun s => [((18, 0), .fl 3 1 (ints [a, b]))]) (fun s => 0 ≤ s ∧ s ≤ Q ∧ none_ a b p Q ((x * Q + y) * Q + s)) (fun s => (Q - s).toNat) (0) ?_ (by repeat' (first | exact trivial | exact rfl | (refine And.intro ?_ ?_))) (by repeat' (first | exact trivial | exact rfl | (refine And.intro ?_ ?_))) (fun s => ⟨rfl, rfl⟩) (fun s i h => by first | exact absurd h (Nat.not_lt_zero i) | (cases i with | zero => rfl | succ i => exact absurd (Nat.lt_of_succ_lt_succ h) (Nat.not_lt_zero i))) ?_
              · exact ⟨by omega, by omega, by simpa using e3⟩
              · rintro z ⟨d1, d2, d3⟩
                have fy : z < Q → hit3 a b p Q x y z → x = (smX a b p k).1 ∧ y = (smX a b p k).2.1 ∧ z = (smX a b p k).2.2 ∧ true = smB a b p k := fun h1 h2 => found hQ hG x1 (by assumption) e1 (by assumption) d1 h1 d3 h2
                have fn : z < Q → ¬ hit3 a b p Q x y z → none_ a b p Q ((x * Q + y) * Q + (z + 1)) := fun h1 h2 => by
                  rw [← Int.add_assoc]
                  exact none_step d3 (fun hc => h2 ((hit_dig x1 e1 (by assumption) d1 h1).1 hc))
                unfold hit3 sv at fy fn
                repeat' (first | ((with_reducible refine (?_ : (_ : Bool) = _)); (with_reducible rfl)) | ((with_reducible refine (?_ : (_ : Nat × Nat) = _)); (with_reducible rfl)) | (with_reducible refine leafRI ?_) | (with_reducible refine leafRB ?_) | (with_reducible refine leafI ?_) | (with_reducible refine leafB ?_) | ((with_reducible refine (?_ : (_ : Int) = _)); (with_reducible rfl)) | ((with_reducible refine (?_ : (_ : List (List Value)) = _)); (with_reducible rfl)) | ((with_reducible refine (?_ : (_ : Int) ≠ 0)); (first | assumption | omega | (simp; done) | (simp only [ints_len] at *; omega) | (simp; omega))) | ((with_reducible refine (?_ : (_ : Int) ≤ _)); (first | assumption | omega | (simp; done) | (simp only [ints_len] at *; omega) | (simp; omega))) | ((with_reducible refine (?_ : (_ : Int) < _)); (first | assumption | omega | (simp; done) | (simp only [ints_len] at *; omega) | (simp; omega))) | ((with_reducible refine (?_ : (_ : Nat) ≤ _)); (first | omega | (simp only [List.length_cons, List.length_nil]; omega) | (simp [ints]; done) | (simp; omega))) | ((with_reducible refine (?_ : (_ : Nat) < _)); (first | omega | (simp only [List.length_cons, List.length_nil]; omega) | (simp [ints]; done) | (simp; omega))) | ((with_reducible refine (?_ : (_ : Nat) = _)); (first | (with_reducible rfl) | (simp; done) | (simp only [fr_len]) | (simp only [ints_len]) | omega | (simp [*]; done))) | (refine And.intro ?_ ?_) | (intro h; first | (exact Bool.noConfusion h) | ((simp only [decide_eq_true_eq, decide_eq_false_iff_not, beq_iff_eq, bne_iff_ne, ne_eq, beq_eq_false_iff_ne, bne_eq_false_iff_eq, Bool.not_eq_true', Bool.not_eq_false', Bool.not_eq_true, Bool.not_eq_false, Int.not_le, Int.not_lt, Bool.and_eq_true, Bool.or_eq_true, Bool.or_eq_false_iff, Bool.and_eq_false_iff] at h); (try (first | (exact Bool.noConfusion h) | (exact (h trivial).elim)))) | skip) | ((with_reducible refine (?_ : chk _ _ = true)); kernel_rfl) | ((with_reducible refine (?_ : (_ : IntKind) = _)); (with_reducible rfl)) | ((with_reducible refine (?_ : eqC (C.pvw _ _ _) (C.pvw _ _ _))); exact rfl) | ((with_reducible refine (?_ : eqC (C.pv (Value.int IntKind.u64 _)) _)); exact rfl) | exact trivial)
                any_goals ((refine ⟨wrap64 (z + 1), ?_, ?_, none, And.intro rfl (And.intro ?_ ?_)⟩); (rotate_left 2); (focus ((repeat' (first | exact trivial | exact rfl | (refine And.intro ?_ ?_))); done)); (focus ((repeat' (first | exact trivial | exact rfl | (refine And.intro ?_ ?_))); done)))
                any_goals (with_reducible refine (?_ : (_ : Int) = _)); grind
                any_goals (with_reducible refine (?_ : (_ : Bool) = _)); grind
                any_goals (with_reducible refine (?_ : (_ : Nat) < _)); rw [wrap_small (n := z + 1) (by omega) (by omega)]; omega
                any_goals (with_reducible refine (?_ : (_ ∧ _ ∧ _))); rw [wrap_small (n := z + 1) (by omega) (by omega)]; exact ⟨by omega, by omega, by grind⟩
                · refine ⟨(wrap64 (y + 1)), ?_, ?_, none, And.intro rfl (And.intro (by repeat' (first | exact trivial | exact rfl | (refine And.intro ?_ ?_))) (by repeat' (first | exact trivial | exact rfl | (refine And.intro ?_ ?_))))⟩
                  · rw [wrap_small (n := y + 1) (by omega) (by omega)]
                    refine ⟨by omega, by omega, ?_⟩
                    rw [show (x * Q + (y + 1)) * Q = (x * Q + y) * Q + Q by rw [← Int.add_assoc, Int.add_mul _ 1]; omega]
                    rw [show z = Q by omega] at d3
                    exact d3
                  · rw [wrap_small (n := y + 1) (by omega) (by omega)]
                    omega
            · refine ⟨(wrap64 (x + 1)), ?_, ?_, none, And.intro rfl (And.intro (by repeat' (first | exact trivial | exact rfl | (refine And.intro ?_ ?_))) (by repeat' (first | exact trivial | exact rfl | (refine And.intro ?_ ?_))))⟩
              · rw [wrap_small (n := x + 1) (by omega) (by omega)]
                refine ⟨by omega, by omega, ?_⟩
                rw [show (x + 1) * Q * Q = (x * Q + Q) * Q by rw [Int.add_mul, Int.one_mul]]
                rw [show y = Q by omega] at e3
                exact e3
              · rw [wrap_small (n := x + 1) (by omega) (by omega)]
                omega
        all_goals (rw [show x = Q by omega] at x3; have hx := nothing hQ x3; grind)

end Go.Proofs.Ytfcndlagnhaafaa
