/- ClassNumber. -/
import Derived.Test.YtodpegnkengeiaaF6
import Derived.Test.YtodpegnkengeiaaF9
namespace Go.Proofs.Ytodpegnkengeiaa
set_option linter.unusedSimpArgs false
set_option linter.unusedVariables false
open Go.RowKit
set_option maxRecDepth 100000

/-- Is a form primitive? -/
def P1 (f : T3) : Bool := decide (((Int.gcd (Int.gcd f.1 f.2.1) f.2.2 : Nat) : Int) = 1)
def prm (l : List T3) : List T3 := l.filter P1
theorem prm_step {l : List T3} {i : Nat} {f : T3} (h : l[i]? = some f) : prm (l.take (i + 1)) = prm (l.take i) ++ if P1 f = true then [f] else [] := by
  rw [prm, List.take_add_one, h, List.filter_append, ← prm]
  cases hp : P1 f <;> simp [hp]
theorem prm_len (l : List T3) (i : Nat) : (prm (l.take i)).length ≤ l.length := by
  have h1 := List.length_filter_le P1 (l.take i)
  have h2 : (l.take i).length ≤ l.length := by rw [List.length_take]; omega
  exact Nat.le_trans h1 h2
/-- Coefficients that are numbers. -/
def nums3 (l : List T3) : Prop := ∀ f ∈ l, (-1000000 ≤ f.1 ∧ f.1 ≤ 1000000) ∧ (-1000000 ≤ f.2.1 ∧ f.2.1 ≤ 1000000) ∧ (-1000000 ≤ f.2.2 ∧ f.2.2 ≤ 1000000)
theorem rowB_nums {d a : Int} (h1 : -2000 ≤ d) (h2 : d ≤ 0) (ha : 1 ≤ a) (ha2 : a ≤ 30) : ∀ k, k ≤ 60 → nums3 (rowB d a k)
  | 0, _ => by intro f hf; simp [rowB] at hf
  | k + 1, hk => by
    intro f hf
    rw [rowB, List.mem_append] at hf
    rcases hf with hf | hf
    · exact rowB_nums h1 h2 ha ha2 k (by omega) f hf
    · split at hf
      · rw [List.mem_singleton] at hf
        subst hf
        have e1 : -60 ≤ 1 - a + (k : Int) := by omega
        have e2 : 1 - a + (k : Int) ≤ 60 := by omega
        have e3 := mul_bd (A := 60) (B := 60) (by omega) e2 (by omega) e2
        have e0 : 0 ≤ (1 - a + (k : Int)) * (1 - a + (k : Int)) := by rcases Int.le_total 0 (1 - a + (k : Int)) with h | h <;> first | exact Int.mul_nonneg h h | exact Int.mul_nonneg_of_nonpos_of_nonpos h h
        have e4 : 0 ≤ ((1 - a + (k : Int)) * (1 - a + (k : Int)) - d) / (4 * a) := Int.ediv_nonneg (by omega) (by omega)
        have e5 : ((1 - a + (k : Int)) * (1 - a + (k : Int)) - d) / (4 * a) ≤ (1 - a + (k : Int)) * (1 - a + (k : Int)) - d := Int.ediv_le_self _ (by omega)
        dsimp only
        omega
      · cases hf
theorem rowsA_nums {d : Int} (h1 : -2000 ≤ d) (h2 : d ≤ 0) : ∀ n, n ≤ 30 → nums3 (rowsA d n)
  | 0, _ => by intro f hf; simp [rowsA] at hf
  | n + 1, hn => by
    intro f hf
    rw [rowsA, List.mem_append] at hf
    rcases hf with hf | hf
    · exact rowsA_nums h1 h2 n (by omega) f hf
    · exact rowB_nums h1 h2 (by omega) (by omega) _ (by omega) f hf
theorem allR_nums {d : Int} (h1 : -2000 ≤ d) (h2 : d ≤ 0) : nums3 (allR d) := by
  obtain ⟨A, a1, a2, a3, a4⟩ := ex_top (-d) (by omega) 27 0 rfl (by simp; omega)
  rw [allR, topA_eq a1 a3 a4]
  exact rowsA_nums h1 h2 _ (by omega)
/-- The list with a form more, or as it was. -/
theorem prm_in {l : List T3} {i : Int} {f : T3} {R : List (List Value)} (hi : 0 ≤ i) (hn : l[i.toNat]? = some f) (e : R = fr (prm (l.take i.toNat))) (hp : ((Int.gcd (Int.gcd f.1 f.2.1) f.2.2 : Nat) : Int) = 1) :
    R ++ [[.int .i64 f.1, .int .i64 f.2.1, .int .i64 f.2.2]] = fr (prm (l.take (i + 1).toNat)) := by
  rw [show (i + 1).toNat = i.toNat + 1 by omega, prm_step hn, if_pos (by simp only [P1, decide_eq_true_eq]; exact hp), fr_app, ← e]
  rfl
theorem prm_out {l : List T3} {i : Int} {f : T3} {R : List (List Value)} (hi : 0 ≤ i) (hn : l[i.toNat]? = some f) (e : R = fr (prm (l.take i.toNat))) (hp : ¬ ((Int.gcd (Int.gcd f.1 f.2.1) f.2.2 : Nat) : Int) = 1) :
    R = fr (prm (l.take (i + 1).toNat)) := by
  rw [show (i + 1).toNat = i.toNat + 1 by omega, prm_step hn, if_neg (by simp only [P1, decide_eq_true_eq]; exact hp), List.append_nil, ← e]
theorem prm_all {l : List T3} {i : Int} {R : List (List Value)} (hi : l.length ≤ i) (e : R = fr (prm (l.take i.toNat))) : R = fr (prm l) := by
  rw [e, List.take_of_length_le (by omega)]

theorem spec_reList (d : Int) (h1 : -2000 ≤ d) (h2 : d ≤ 0) : AFun Try.prog 76 [] [I d] (.c (.slc (0, 0) (prm (allR d)).length)) [] [.fl 26 3 (fr (prm (allR d)))] := by
  have hl := allR_len d h1 h2
  have hb := allR_nums h1 h2
  refine afun_intro fn76 (by simp) rfl (by repeat' (first | exact trivial | (simp; done) | refine ⟨?_, ?_⟩)) ?_
  unfold ac76
  repeat' (first | ((with_reducible refine (?_ : (_ : Bool) = _)); (with_reducible rfl)) | ((with_reducible refine (?_ : (_ : Nat × Nat) = _)); (with_reducible rfl)) | (with_reducible refine leafRI ?_) | (with_reducible refine leafRB ?_) | (with_reducible refine leafI ?_) | (with_reducible refine leafB ?_) | ((with_reducible refine (?_ : (_ : Int) = _)); (with_reducible rfl)) | ((with_reducible refine (?_ : (_ : List (List Value)) = _)); (with_reducible rfl)) | ((with_reducible refine (?_ : (_ : Int) ≠ 0)); (first | assumption | omega | (simp only [ints_len] at *; omega) | (simp; omega))) | ((with_reducible refine (?_ : (_ : Int) ≤ _)); (first | assumption | omega | (simp only [ints_len] at *; omega) | (simp; omega))) | ((with_reducible refine (?_ : (_ : Int) < _)); (first | assumption | omega | (simp only [ints_len] at *; omega) | (simp; omega))) | ((with_reducible refine (?_ : (_ : Nat) ≤ _)); (first | omega | (simp only [List.length_cons, List.length_nil]; omega) | (simp; omega))) | ((with_reducible refine (?_ : (_ : Nat) = _)); (first | (with_reducible rfl) | (simp; done) | (simp only [fr_len]) | (simp only [ints_len]) | omega | (simp [*]; done))) | (refine And.intro ?_ ?_) | (intro h; first | (exact Bool.noConfusion h) | ((simp only [decide_eq_true_eq, decide_eq_false_iff_not, beq_iff_eq, bne_iff_ne, ne_eq, beq_eq_false_iff_ne, bne_eq_false_iff_eq, Bool.not_eq_true', Bool.not_eq_false', Bool.not_eq_true, Bool.not_eq_false, Int.not_le, Int.not_lt, Bool.and_eq_true, Bool.or_eq_true, Bool.or_eq_false_iff, Bool.and_eq_false_iff] at h); (try (first | (exact Bool.noConfusion h) | (exact (h trivial).elim)))) | skip) | ((refine (?_ : ACall _ _ _ _ _ _ _)); first | ((apply acall (spec_reAll _ ?_ ?_)); (focus (repeat' (first | exact rfl | (refine And.intro ?_ ?_) | (simp only [ints_len]; done) | (simp; done) | omega))))) | ((with_reducible refine (?_ : chk _ _ = true)); kernel_rfl) | exact trivial)
  refine loop_rule (σ := Nat × List (List Value) × Int) (fun s => [(3, .c (.slc (3, 0) s.1)), (9, I s.2.2)]) (fun s => [((2, 0), .fl 26 3 []), ((3, 0), .fl 26 3 s.2.1), ((7, 0), .fl 26 3 (fr (allR d)))]) (fun s => s.1 = s.2.1.length ∧ 0 ≤ s.2.2 ∧ s.2.2 ≤ (allR d).length ∧ s.2.1 = fr (prm ((allR d).take s.2.2.toNat))) (fun s => ((allR d).length - s.2.2).toNat) ((0, [], 0)) ?_ (by repeat' (first | exact trivial | exact rfl | (refine And.intro ?_ ?_))) (by repeat' (first | exact trivial | exact rfl | (refine And.intro ?_ ?_))) (fun s => ⟨rfl, rfl⟩) (fun s i h => by first | exact absurd h (Nat.not_lt_zero i) | (cases i with | zero => rfl | succ i => exact absurd (Nat.lt_of_succ_lt_succ h) (Nat.not_lt_zero i))) ?_
  · exact ⟨rfl, by dsimp only; omega, by dsimp only; omega, by simp [prm, fr]⟩
  · rintro ⟨m, R, i⟩ ⟨g0, g1, g2, g3⟩
    dsimp only at g0 g1 g2 g3
    have hR : R.length ≤ 2000 := by have := prm_len (allR d) i.toNat; rw [g3, fr_len]; omega
    have hm : ∀ f, (allR d)[i.toNat]? = some f → (-1000000 ≤ f.1 ∧ f.1 ≤ 1000000) ∧ (-1000000 ≤ f.2.1 ∧ f.2.1 ≤ 1000000) ∧ (-1000000 ≤ f.2.2 ∧ f.2.2 ≤ 1000000) := fun f hf => hb f (List.mem_of_getElem? hf)
    repeat' (first | ((with_reducible refine (?_ : (_ : Bool) = _)); (with_reducible rfl)) | ((with_reducible refine (?_ : (_ : Nat × Nat) = _)); (with_reducible rfl)) | (with_reducible refine leafRI ?_) | (with_reducible refine leafRB ?_) | (with_reducible refine leafI ?_) | (with_reducible refine leafB ?_) | ((with_reducible refine (?_ : (_ : Int) = _)); (with_reducible rfl)) | ((with_reducible refine (?_ : (_ : List (List Value)) = _)); (with_reducible rfl)) | ((with_reducible refine (?_ : (_ : Int) ≠ 0)); (first | assumption | omega | (simp only [ints_len] at *; omega) | (simp; omega))) | ((with_reducible refine (?_ : (_ : Int) ≤ _)); (first | assumption | omega | (simp only [ints_len] at *; omega) | (simp; omega))) | ((with_reducible refine (?_ : (_ : Int) < _)); (first | assumption | omega | (simp only [ints_len] at *; omega) | (simp; omega))) | ((with_reducible refine (?_ : (_ : Nat) ≤ _)); (first | omega | (simp only [List.length_cons, List.length_nil]; omega) | (simp; omega))) | ((with_reducible refine (?_ : (_ : Nat) = _)); (first | (with_reducible rfl) | (simp; done) | (simp only [fr_len]) | (simp only [ints_len]) | omega | (simp [*]; done))) | ((with_reducible refine fr_at ?_ ?_); (focus (constructor <;> (first | omega | (simp only [fr_len] at *; omega)))); intro n hn) | (refine And.intro ?_ ?_) | (intro h; first | (exact Bool.noConfusion h) | ((simp only [decide_eq_true_eq, decide_eq_false_iff_not, beq_iff_eq, bne_iff_ne, ne_eq, beq_eq_false_iff_ne, bne_eq_false_iff_eq, Bool.not_eq_true', Bool.not_eq_false', Bool.not_eq_true, Bool.not_eq_false, Int.not_le, Int.not_lt, Bool.and_eq_true, Bool.or_eq_true, Bool.or_eq_false_iff, Bool.and_eq_false_iff] at h); (try (first | (exact Bool.noConfusion h) | (exact (h trivial).elim)))) | skip) | ((refine (?_ : ACall _ _ _ _ _ _ _)); first | ((apply acall (spec_foContent _ _ _ ?_ ?_ ?_ ?_ ?_ ?_)); (focus (repeat' (first | exact rfl | (refine And.intro ?_ ?_) | (simp only [ints_len]; done) | (simp; done) | omega))))) | ((with_reducible refine (?_ : chk _ _ = true)); kernel_rfl) | exact trivial)
    · refine ⟨(R.length + 1, R ++ [[.int .i64 n.1, .int .i64 n.2.1, .int .i64 n.2.2]], wrap64 (i + 1)), ?_, ?_, none, And.intro rfl (And.intro (by repeat' (first | exact trivial | exact rfl | (refine And.intro ?_ ?_))) (by repeat' (first | exact trivial | exact rfl | (refine And.intro ?_ ?_))))⟩
      · dsimp only at hn ⊢
        rw [wrap_small (n := i + 1) (by omega) (by omega)]
        exact ⟨by simp, by omega, by omega, prm_in g1 hn g3 h⟩
      · dsimp only
        rw [wrap_small (n := i + 1) (by omega) (by omega)]
        omega
    · refine ⟨(m, R, wrap64 (i + 1)), ?_, ?_, none, And.intro rfl (And.intro (by repeat' (first | exact trivial | exact rfl | (refine And.intro ?_ ?_))) (by repeat' (first | exact trivial | exact rfl | (refine And.intro ?_ ?_))))⟩
      · dsimp only at hn ⊢
        rw [wrap_small (n := i + 1) (by omega) (by omega)]
        exact ⟨g0, by omega, by omega, prm_out g1 hn g3 h⟩
      · dsimp only
        rw [wrap_small (n := i + 1) (by omega) (by omega)]
        omega
    any_goals (with_reducible refine (?_ : (_ : Int) ≤ _)); (have := hm _ hn; omega)
    · change m = _
      rw [g0, prm_all (by omega) g3, fr_len]
    · exact prm_all (by omega) g3

abbrev VF (l : List T3) : V := .c (.view 3 (fr l))

theorem impl_primitiveOf (l : List T3) (hl : l.length ≤ 2000) (hb : nums3 l) : AFun Try.prog 133 [] [VF l] (.c (.slc (0, 0) (prm l).length)) [] [.fl 26 3 (fr (prm l))] := by
  refine afun_intro fn133 (by simp) rfl (by repeat' (first | exact trivial | (simp; done) | refine ⟨?_, ?_⟩)) ?_
  unfold ac133
  repeat' (first | ((with_reducible refine (?_ : (_ : Bool) = _)); (with_reducible rfl)) | ((with_reducible refine (?_ : (_ : Nat × Nat) = _)); (with_reducible rfl)) | (with_reducible refine leafRI ?_) | (with_reducible refine leafRB ?_) | (with_reducible refine leafI ?_) | (with_reducible refine leafB ?_) | ((with_reducible refine (?_ : (_ : Int) = _)); (with_reducible rfl)) | ((with_reducible refine (?_ : (_ : List (List Value)) = _)); (with_reducible rfl)) | ((with_reducible refine (?_ : (_ : Int) ≠ 0)); (first | assumption | omega | (simp only [ints_len] at *; omega) | (simp; omega))) | ((with_reducible refine (?_ : (_ : Int) ≤ _)); (first | assumption | omega | (simp only [ints_len] at *; omega) | (simp; omega))) | ((with_reducible refine (?_ : (_ : Int) < _)); (first | assumption | omega | (simp only [ints_len] at *; omega) | (simp; omega))) | ((with_reducible refine (?_ : (_ : Nat) ≤ _)); (first | omega | (simp only [List.length_cons, List.length_nil]; omega) | (simp; omega))) | ((with_reducible refine (?_ : (_ : Nat) = _)); (first | (with_reducible rfl) | (simp; done) | (simp only [fr_len]) | (simp only [ints_len]) | omega | (simp [*]; done))) | (refine And.intro ?_ ?_) | (intro h; first | (exact Bool.noConfusion h) | ((simp only [decide_eq_true_eq, decide_eq_false_iff_not, beq_iff_eq, bne_iff_ne, ne_eq, beq_eq_false_iff_ne, bne_eq_false_iff_eq, Bool.not_eq_true', Bool.not_eq_false', Bool.not_eq_true, Bool.not_eq_false, Int.not_le, Int.not_lt, Bool.and_eq_true, Bool.or_eq_true, Bool.or_eq_false_iff, Bool.and_eq_false_iff] at h); (try (first | (exact Bool.noConfusion h) | (exact (h trivial).elim)))) | skip) | ((with_reducible refine (?_ : chk _ _ = true)); kernel_rfl) | exact trivial)
  refine loop_rule (σ := Nat × List (List Value) × Int) (fun s => [(3, .c (.slc (6, 0) s.1)), (9, I s.2.2)]) (fun s => [((2, 0), .fl 26 3 []), ((6, 0), .fl 26 3 s.2.1)]) (fun s => s.1 = s.2.1.length ∧ 0 ≤ s.2.2 ∧ s.2.2 ≤ l.length ∧ s.2.1 = fr (prm (l.take s.2.2.toNat))) (fun s => (l.length - s.2.2).toNat) ((0, [], 0)) ?_ (by repeat' (first | exact trivial | exact rfl | (refine And.intro ?_ ?_))) (by repeat' (first | exact trivial | exact rfl | (refine And.intro ?_ ?_))) (fun s => ⟨rfl, rfl⟩) (fun s i h => by first | exact absurd h (Nat.not_lt_zero i) | (cases i with | zero => rfl | succ i => exact absurd (Nat.lt_of_succ_lt_succ h) (Nat.not_lt_zero i))) ?_
  · exact ⟨rfl, by dsimp only; omega, by dsimp only; omega, by simp [prm, fr]⟩
  · rintro ⟨m, R, i⟩ ⟨g0, g1, g2, g3⟩
    dsimp only at g0 g1 g2 g3
    have hR : R.length ≤ 2000 := by have := prm_len l i.toNat; rw [g3, fr_len]; omega
    have hm : ∀ f, l[i.toNat]? = some f → (-1000000 ≤ f.1 ∧ f.1 ≤ 1000000) ∧ (-1000000 ≤ f.2.1 ∧ f.2.1 ≤ 1000000) ∧ (-1000000 ≤ f.2.2 ∧ f.2.2 ≤ 1000000) := fun f hf => hb f (List.mem_of_getElem? hf)
    have hfl := fr_len l
    repeat' (first | ((with_reducible refine (?_ : (_ : Bool) = _)); (with_reducible rfl)) | ((with_reducible refine (?_ : (_ : Nat × Nat) = _)); (with_reducible rfl)) | (with_reducible refine leafRI ?_) | (with_reducible refine leafRB ?_) | (with_reducible refine leafI ?_) | (with_reducible refine leafB ?_) | ((with_reducible refine (?_ : (_ : Int) = _)); (with_reducible rfl)) | ((with_reducible refine (?_ : (_ : List (List Value)) = _)); (with_reducible rfl)) | ((with_reducible refine (?_ : (_ : Int) ≠ 0)); (first | assumption | omega | (simp only [ints_len] at *; omega) | (simp; omega))) | ((with_reducible refine (?_ : (_ : Int) ≤ _)); (first | assumption | omega | (simp only [ints_len] at *; omega) | (simp; omega))) | ((with_reducible refine (?_ : (_ : Int) < _)); (first | assumption | omega | (simp only [ints_len] at *; omega) | (simp; omega))) | ((with_reducible refine (?_ : (_ : Nat) ≤ _)); (first | omega | (simp only [List.length_cons, List.length_nil]; omega) | (simp; omega))) | ((with_reducible refine (?_ : (_ : Nat) = _)); (first | (with_reducible rfl) | (simp; done) | (simp only [fr_len]) | (simp only [ints_len]) | omega | (simp [*]; done))) | ((with_reducible refine fr_at ?_ ?_); (focus (constructor <;> (first | omega | (simp only [fr_len] at *; omega)))); intro n hn) | (refine And.intro ?_ ?_) | (intro h; first | (exact Bool.noConfusion h) | ((simp only [decide_eq_true_eq, decide_eq_false_iff_not, beq_iff_eq, bne_iff_ne, ne_eq, beq_eq_false_iff_ne, bne_eq_false_iff_eq, Bool.not_eq_true', Bool.not_eq_false', Bool.not_eq_true, Bool.not_eq_false, Int.not_le, Int.not_lt, Bool.and_eq_true, Bool.or_eq_true, Bool.or_eq_false_iff, Bool.and_eq_false_iff] at h); (try (first | (exact Bool.noConfusion h) | (exact (h trivial).elim)))) | skip) | ((refine (?_ : ACall _ _ _ _ _ _ _)); first | ((apply acall (impl_content _ _ _ ?_ ?_ ?_ ?_ ?_ ?_)); (focus (repeat' (first | exact rfl | (refine And.intro ?_ ?_) | (simp only [ints_len]; done) | (simp; done) | omega))))) | ((with_reducible refine (?_ : chk _ _ = true)); kernel_rfl) | exact trivial)
    · refine ⟨(R.length + 1, R ++ [[.int .i64 n.1, .int .i64 n.2.1, .int .i64 n.2.2]], wrap64 (i + 1)), ?_, ?_, none, And.intro rfl (And.intro (by repeat' (first | exact trivial | exact rfl | (refine And.intro ?_ ?_))) (by repeat' (first | exact trivial | exact rfl | (refine And.intro ?_ ?_))))⟩
      · dsimp only at hn ⊢
        rw [wrap_small (n := i + 1) (by omega) (by omega)]
        exact ⟨by simp, by omega, by omega, prm_in g1 hn g3 h⟩
      · dsimp only
        rw [wrap_small (n := i + 1) (by omega) (by omega)]
        omega
    · refine ⟨(m, R, wrap64 (i + 1)), ?_, ?_, none, And.intro rfl (And.intro (by repeat' (first | exact trivial | exact rfl | (refine And.intro ?_ ?_))) (by repeat' (first | exact trivial | exact rfl | (refine And.intro ?_ ?_))))⟩
      · dsimp only at hn ⊢
        rw [wrap_small (n := i + 1) (by omega) (by omega)]
        exact ⟨g0, by omega, by omega, prm_out g1 hn g3 h⟩
      · dsimp only
        rw [wrap_small (n := i + 1) (by omega) (by omega)]
        omega
    any_goals (with_reducible refine (?_ : (_ : Int) ≤ _)); (have := hm _ hn; omega)
    · change m = _
      rw [g0, prm_all (by omega) g3, fr_len]
    · exact prm_all (by omega) g3

theorem impl_reducedForms (d : Int) (h1 : -2000 ≤ d) (h2 : d ≤ 0) : AFun Try.prog 79 [] [I d] (.c (.slc (0, 0) (prm (allR d)).length)) [] [.fl 26 3 (fr (prm (allR d)))] := by
  have hl := allR_len d h1 h2
  have hb := allR_nums h1 h2
  refine afun_intro fn79 (by simp) rfl (by repeat' (first | exact trivial | (simp; done) | refine ⟨?_, ?_⟩)) ?_
  unfold ac79
  repeat' (first | ((with_reducible refine (?_ : (_ : Bool) = _)); (with_reducible rfl)) | ((with_reducible refine (?_ : (_ : Nat × Nat) = _)); (with_reducible rfl)) | (with_reducible refine leafRI ?_) | (with_reducible refine leafRB ?_) | (with_reducible refine leafI ?_) | (with_reducible refine leafB ?_) | ((with_reducible refine (?_ : (_ : Int) = _)); (with_reducible rfl)) | ((with_reducible refine (?_ : (_ : List (List Value)) = _)); (with_reducible rfl)) | ((with_reducible refine (?_ : (_ : Int) ≠ 0)); (first | assumption | omega | (simp only [ints_len] at *; omega) | (simp; omega))) | ((with_reducible refine (?_ : (_ : Int) ≤ _)); (first | assumption | omega | (simp only [ints_len] at *; omega) | (simp; omega))) | ((with_reducible refine (?_ : (_ : Int) < _)); (first | assumption | omega | (simp only [ints_len] at *; omega) | (simp; omega))) | ((with_reducible refine (?_ : (_ : Nat) ≤ _)); (first | omega | (simp only [List.length_cons, List.length_nil]; omega) | (simp; omega))) | ((with_reducible refine (?_ : (_ : Nat) = _)); (first | (with_reducible rfl) | (simp; done) | (simp only [fr_len]) | (simp only [ints_len]) | omega | (simp [*]; done))) | (refine And.intro ?_ ?_) | (intro h; first | (exact Bool.noConfusion h) | ((simp only [decide_eq_true_eq, decide_eq_false_iff_not, beq_iff_eq, bne_iff_ne, ne_eq, beq_eq_false_iff_ne, bne_eq_false_iff_eq, Bool.not_eq_true', Bool.not_eq_false', Bool.not_eq_true, Bool.not_eq_false, Int.not_le, Int.not_lt, Bool.and_eq_true, Bool.or_eq_true, Bool.or_eq_false_iff, Bool.and_eq_false_iff] at h); (try (first | (exact Bool.noConfusion h) | (exact (h trivial).elim)))) | skip) | ((refine (?_ : ACall _ _ _ _ _ _ _)); first | ((apply acall (impl_allReduced _ ?_ ?_)); (focus (repeat' (first | exact rfl | (refine And.intro ?_ ?_) | (simp only [ints_len]; done) | (simp; done) | omega)))) | ((apply acall (impl_primitiveOf _ hl hb)); (focus (repeat' (first | exact rfl | (refine And.intro ?_ ?_) | (simp only [ints_len]; done) | (simp; done) | omega))))) | ((with_reducible refine (?_ : chk _ _ = true)); kernel_rfl) | exact trivial)
  all_goals (first | rfl | trace_state)

/-- Is d a negative discriminant that is taken? -/
def nd (d : Int) : Bool := decide (-2000 ≤ d) && decide (d ≤ -3) && decide (d % 4 < 2)
abbrev SlB (n : Nat) (b : Bool) : V := .tup [(false, [.slc (0, 0) n]), (false, [cB b])]
noncomputable def rfs (d : Int) : List T3 := if nd d then prm (allR d) else []

noncomputable def cnN (d : Int) : Int := if nd d then (prm (allR d)).length else 0

end Go.Proofs.Ytodpegnkengeiaa
