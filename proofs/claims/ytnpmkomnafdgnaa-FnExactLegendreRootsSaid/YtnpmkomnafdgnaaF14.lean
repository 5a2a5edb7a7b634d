/- PrincipalResidues. -/
import Derived.Test.YtnpmkomnafdgnaaF13
namespace Go.Proofs.Ytnpmkomnafdgnaa
set_option linter.unusedSimpArgs false
set_option linter.unusedVariables false
open Go.RowKit
set_option maxRecDepth 100000

theorem impl_isFactor (n : Int) : AFun Try.prog 55 [] [I n] (Bo (decide (1 ≤ n) && decide (n ≤ 500))) [] [] := by
  refine afun_intro fn55 (by simp) rfl (by repeat' (first | exact trivial | (simp; done) | refine ⟨?_, ?_⟩)) ?_
  unfold ac55
  repeat' (first | ((with_reducible refine (?_ : (_ : Bool) = _)); (with_reducible rfl)) | ((with_reducible refine (?_ : (_ : Nat × Nat) = _)); (with_reducible rfl)) | (with_reducible refine leafRI ?_) | (with_reducible refine leafRB ?_) | (with_reducible refine leafI ?_) | (with_reducible refine leafB ?_) | ((with_reducible refine (?_ : (_ : Int) ≠ 0)); (first | assumption | omega | (simp only [ints_len] at *; omega) | (simp; omega))) | ((with_reducible refine (?_ : (_ : Int) ≤ _)); (first | assumption | omega | (simp only [ints_len] at *; omega) | (simp; omega))) | ((with_reducible refine (?_ : (_ : Int) < _)); (first | assumption | omega | (simp only [ints_len] at *; omega) | (simp; omega))) | ((with_reducible refine (?_ : (_ : Nat) ≤ _)); (first | omega | (simp only [List.length_cons, List.length_nil]; omega) | (simp; omega))) | ((with_reducible refine (?_ : (_ : Nat) = _)); (first | (with_reducible rfl) | (simp; done) | (simp only [fr_len]) | (simp only [ints_len]) | omega | (simp [*]; done))) | (refine And.intro ?_ ?_) | (intro h; first | (exact Bool.noConfusion h) | ((simp only [decide_eq_true_eq, decide_eq_false_iff_not, beq_iff_eq, bne_iff_ne, ne_eq, beq_eq_false_iff_ne, bne_eq_false_iff_eq, Bool.not_eq_true', Bool.not_eq_false', Bool.not_eq_true, Bool.not_eq_false, Int.not_le, Int.not_lt, Bool.and_eq_true, Bool.or_eq_true, Bool.or_eq_false_iff, Bool.and_eq_false_iff] at h); (try (first | (exact Bool.noConfusion h) | (exact (h trivial).elim)))) | skip) | ((with_reducible refine (?_ : chk _ _ = true)); kernel_rfl) | exact trivial)
  all_goals (first | rfl | (change _ = _; simp [*]; done) | (change _ = _; simp [*]; omega) | (change _ = _; rw [Bool.eq_iff_iff]; simp; omega))

/-- r is a residue of x with x below X. -/
def prS (n X r : Int) : Prop := ∃ x, 0 ≤ x ∧ x < X ∧ (r = x * x % (4 * n) ∨ r = (x * x + n) % (4 * n))
noncomputable def prB (n r : Int) : Bool := @decide (prS n (2 * n) r ∧ Int.gcd r (4 * n) = 1) (Classical.propDecidable _)
noncomputable def prL (n : Int) : Nat → List Int
  | 0 => []
  | k + 1 => prL n k ++ if prB n k then [(k : Int)] else []
theorem prL_len (n : Int) : ∀ k, (prL n k).length ≤ k
  | 0 => Nat.le_refl _
  | k + 1 => by have := prL_len n k; simp only [prL]; split <;> simp <;> omega
noncomputable def prR (n : Int) : List Int := if decide (1 ≤ n) && decide (n ≤ 500) then prL n (4 * n).toNat else []
theorem mod4 {a r m : Int} (hm : 0 < m) (h0 : 0 ≤ r) (h1 : r < m) : (a - r).tmod m = 0 ↔ r = a % m := by
  have e := tmod_pos (a := a - r) hm
  have e0 := Int.emod_nonneg (a - r) (show m ≠ 0 by omega)
  have key : (a - r) % m = 0 ↔ r = a % m := by
    constructor
    · intro h
      have := Int.emod_emod_of_dvd a (Int.dvd_refl m)
      have h2 := Int.emod_eq_emod_iff_emod_sub_eq_zero.2 h
      rw [Int.emod_eq_of_lt h0 h1] at h2
      exact h2.symm
    · intro h
      apply Int.emod_eq_emod_iff_emod_sub_eq_zero.1
      rw [Int.emod_eq_of_lt h0 h1]; exact h.symm
  rw [← key]
  omega

theorem prS_step {n X r : Int} (h : 0 ≤ X) : prS n (X + 1) r ↔ prS n X r ∨ (r = X * X % (4 * n) ∨ r = (X * X + n) % (4 * n)) := by
  constructor
  · rintro ⟨x, h1, h2, h3⟩
    by_cases e : x = X
    · subst e; exact .inr h3
    · exact .inl ⟨x, h1, by omega, h3⟩
  · rintro (⟨x, h1, h2, h3⟩ | h3)
    · exact ⟨x, h1, by omega, h3⟩
    · exact ⟨X, h, by omega, h3⟩
theorem prS_four {n r : Int} (hn : 0 < n) : prS n (4 * n) r ↔ prS n (2 * n) r := by
  constructor
  · rintro ⟨x, h1, h2, h3⟩
    by_cases e : x < 2 * n
    · exact ⟨x, h1, e, h3⟩
    · refine ⟨x - 2 * n, by omega, by omega, ?_⟩
      have e1 : (x - 2 * n) * (x - 2 * n) = x * x + 4 * n * (n - x) := by grind
      rw [e1, Int.add_mul_emod_self_left, show x * x + 4 * n * (n - x) + n = (x * x + n) + 4 * n * (n - x) by omega, Int.add_mul_emod_self_left]
      exact h3
  · rintro ⟨x, h1, h2, h3⟩
    exact ⟨x, h1, by omega, h3⟩

theorem spec_PrincipalResidues (n : Int) : AFun Try.prog 18 [] [I n] (PS (prR n).length (decide (1 ≤ n) && decide (n ≤ 500))) [] [FI (prR n)] := by
  refine afun_intro fn18 (by simp) rfl (by repeat' (first | exact trivial | (simp; done) | refine ⟨?_, ?_⟩)) ?_
  unfold ac18
  repeat' (first | ((with_reducible refine (?_ : (_ : Bool) = _)); (with_reducible rfl)) | ((with_reducible refine (?_ : (_ : Nat × Nat) = _)); (with_reducible rfl)) | (with_reducible refine leafRI ?_) | (with_reducible refine leafRB ?_) | (with_reducible refine leafI ?_) | (with_reducible refine leafB ?_) | ((with_reducible refine (?_ : (_ : Int) ≠ 0)); (first | assumption | omega | (simp only [ints_len] at *; omega) | (simp; omega))) | ((with_reducible refine (?_ : (_ : Int) ≤ _)); (first | assumption | omega | (simp only [ints_len] at *; omega) | (simp; omega))) | ((with_reducible refine (?_ : (_ : Int) < _)); (first | assumption | omega | (simp only [ints_len] at *; omega) | (simp; omega))) | ((with_reducible refine (?_ : (_ : Nat) ≤ _)); (first | omega | (simp only [List.length_cons, List.length_nil]; omega) | (simp; omega))) | ((with_reducible refine (?_ : (_ : Nat) = _)); (first | (with_reducible rfl) | (simp; done) | (simp only [fr_len]) | (simp only [ints_len]) | omega | (simp [*]; done))) | (refine And.intro ?_ ?_) | (intro h; first | (exact Bool.noConfusion h) | ((simp only [decide_eq_true_eq, decide_eq_false_iff_not, beq_iff_eq, bne_iff_ne, ne_eq, beq_eq_false_iff_ne, bne_eq_false_iff_eq, Bool.not_eq_true', Bool.not_eq_false', Bool.not_eq_true, Bool.not_eq_false, Int.not_le, Int.not_lt, Bool.and_eq_true, Bool.or_eq_true, Bool.or_eq_false_iff, Bool.and_eq_false_iff] at h); (try (first | (exact Bool.noConfusion h) | (exact (h trivial).elim)))) | skip) | ((refine (?_ : ACall _ _ _ _ _ _ _)); first | ((apply acall (spec_l1In _ _ _)); (focus (repeat' (first | exact rfl | (refine And.intro ?_ ?_) | (simp only [ints_len]; done) | (simp; done) | omega))))) | ((with_reducible refine (?_ : chk _ _ = true)); kernel_rfl) | exact trivial)
  · simp [prR, show ¬ (1 ≤ n ∧ n ≤ 500) by omega]
  · simp; omega
  · simp [prR, show ¬ (1 ≤ n ∧ n ≤ 500) by omega, ints]
  have hR : prR n = prL n (4 * n).toNat := by simp [prR, h]
  have w4 : wrap64 (4 * n) = 4 * n := wrap_small (by omega) (by omega)
  have w2 : wrap64 (2 * n) = 2 * n := wrap_small (by omega) (by omega)
  refine loop_rule (σ := Nat × List (List Value) × Int) (fun s => [(4, .c (.slc (4, 0) s.1)), (5, I s.2.2)]) (fun s => [((2, 0), .fl 3 1 []), ((4, 0), .fl 3 1 s.2.1)]) (fun s => s.1 = s.2.1.length ∧ 0 ≤ s.2.2 ∧ s.2.2 ≤ 4 * n ∧ s.2.1 = ints (prL n s.2.2.toNat)) (fun s => (4 * n - s.2.2).toNat) ((0, [], 0)) ?_ (by repeat' (first | exact trivial | exact rfl | (refine And.intro ?_ ?_))) (by repeat' (first | exact trivial | exact rfl | (refine And.intro ?_ ?_))) (fun s => ⟨rfl, rfl⟩) (fun s i h => by first | exact absurd h (Nat.not_lt_zero i) | (cases i with | zero => rfl | succ i => exact absurd (Nat.lt_of_succ_lt_succ h) (Nat.not_lt_zero i))) ?_
  · exact ⟨rfl, by dsimp only; omega, by dsimp only; omega, rfl⟩
  · rintro ⟨c, R, r⟩ ⟨g0, g1, g2, g3⟩
    dsimp only at g0 g1 g2 g3 ⊢
    have hA := prL_len n r.toNat
    have hRl : R.length ≤ r.toNat := by rw [g3]; simpa using hA
    have wr : r < 4 * n → wrap64 (r + 1) = r + 1 := fun h => wrap_small (by omega) (by omega)
    have stepR : prL n (r + 1).toNat = prL n r.toNat ++ if prB n r then [r] else [] := by
      rw [show (r + 1).toNat = r.toNat + 1 by omega, prL, show ((r.toNat : Nat) : Int) = r by omega]
    repeat' (first | ((with_reducible refine (?_ : (_ : Bool) = _)); (with_reducible rfl)) | ((with_reducible refine (?_ : (_ : Nat × Nat) = _)); (with_reducible rfl)) | (with_reducible refine leafRI ?_) | (with_reducible refine leafRB ?_) | (with_reducible refine leafI ?_) | (with_reducible refine leafB ?_) | ((with_reducible refine (?_ : (_ : Int) ≠ 0)); (first | assumption | omega | (simp only [ints_len] at *; omega) | (simp; omega))) | ((with_reducible refine (?_ : (_ : Int) ≤ _)); (first | assumption | omega | (simp only [ints_len] at *; omega) | (simp; omega))) | ((with_reducible refine (?_ : (_ : Int) < _)); (first | assumption | omega | (simp only [ints_len] at *; omega) | (simp; omega))) | ((with_reducible refine (?_ : (_ : Nat) ≤ _)); (first | omega | (simp only [List.length_cons, List.length_nil]; omega) | (simp; omega))) | ((with_reducible refine (?_ : (_ : Nat) = _)); (first | (with_reducible rfl) | (simp; done) | (simp only [fr_len]) | (simp only [ints_len]) | omega | (simp [*]; done))) | (refine And.intro ?_ ?_) | (intro h; first | (exact Bool.noConfusion h) | ((simp only [decide_eq_true_eq, decide_eq_false_iff_not, beq_iff_eq, bne_iff_ne, ne_eq, beq_eq_false_iff_ne, bne_eq_false_iff_eq, Bool.not_eq_true', Bool.not_eq_false', Bool.not_eq_true, Bool.not_eq_false, Int.not_le, Int.not_lt, Bool.and_eq_true, Bool.or_eq_true, Bool.or_eq_false_iff, Bool.and_eq_false_iff] at h); (try (first | (exact Bool.noConfusion h) | (exact (h trivial).elim)))) | skip) | ((with_reducible refine (?_ : chk _ _ = true)); kernel_rfl) | exact trivial)
    · refine loop_rule (σ := Bool × Int) (fun s => [(6, Bo s.1), (7, I s.2)]) (fun s => [((2, 0), .fl 3 1 []), ((4, 0), .fl 3 1 R)]) (fun s => 0 ≤ s.2 ∧ s.2 ≤ 2 * n ∧ (s.1 = true ↔ prS n s.2 r)) (fun s => (2 * n - s.2).toNat) ((false, 0)) ?_ (by repeat' (first | exact trivial | exact rfl | (refine And.intro ?_ ?_))) (by repeat' (first | exact trivial | exact rfl | (refine And.intro ?_ ?_))) (fun s => ⟨rfl, rfl⟩) (fun s i h => by first | exact absurd h (Nat.not_lt_zero i) | (cases i with | zero => rfl | succ i => exact absurd (Nat.lt_of_succ_lt_succ h) (Nat.not_lt_zero i))) ?_
      · refine ⟨by dsimp only; omega, by dsimp only; omega, ?_⟩
        dsimp only
        constructor
        · intro h; cases h
        · rintro ⟨x, h1, h2, _⟩; omega
      · rintro ⟨b, x⟩ ⟨e1, e2, e3⟩
        dsimp only at e1 e2 e3 ⊢
        have x2 := mul_bd (a := x) (b := x) (A := 1000) (B := 1000) (by omega) (by omega) (by omega) (by omega)
        have wx : wrap64 (x * x) = x * x := wrap_small (by omega) (by omega)
        have wx1 : wrap64 (x * x - r) = x * x - r := wrap_small (by omega) (by omega)
        have wx2 : wrap64 (x * x + n) = x * x + n := wrap_small (by omega) (by omega)
        have wx3 : wrap64 (x * x + n - r) = x * x + n - r := wrap_small (by omega) (by omega)
        have wx4 : wrap64 (x + 1) = x + 1 := wrap_small (by omega) (by omega)
        have hst := prS_step (n := n) (r := r) e1
        have hm1 := mod4 (a := x * x) (r := r) (m := 4 * n) (by omega) g1 (by omega)
        have hm2 := mod4 (a := x * x + n) (r := r) (m := 4 * n) (by omega) g1 (by omega)
        have done : 2 * n ≤ x → (b = true ↔ prS n (2 * n) r) := fun h => by rw [show 2 * n = x by omega]; exact e3
        repeat' (first | ((with_reducible refine (?_ : (_ : Bool) = _)); (with_reducible rfl)) | ((with_reducible refine (?_ : (_ : Nat × Nat) = _)); (with_reducible rfl)) | (with_reducible refine leafRI ?_) | (with_reducible refine leafRB ?_) | (with_reducible refine leafI ?_) | (with_reducible refine leafB ?_) | ((with_reducible refine (?_ : (_ : Int) ≠ 0)); (first | assumption | omega | (simp only [ints_len] at *; omega) | (simp; omega))) | ((with_reducible refine (?_ : (_ : Int) ≤ _)); (first | assumption | omega | (simp only [ints_len] at *; omega) | (simp; omega))) | ((with_reducible refine (?_ : (_ : Int) < _)); (first | assumption | omega | (simp only [ints_len] at *; omega) | (simp; omega))) | ((with_reducible refine (?_ : (_ : Nat) ≤ _)); (first | omega | (simp only [List.length_cons, List.length_nil]; omega) | (simp; omega))) | ((with_reducible refine (?_ : (_ : Nat) = _)); (first | (with_reducible rfl) | (simp; done) | (simp only [fr_len]) | (simp only [ints_len]) | omega | (simp [*]; done))) | (refine And.intro ?_ ?_) | (intro h; first | (exact Bool.noConfusion h) | ((simp only [decide_eq_true_eq, decide_eq_false_iff_not, beq_iff_eq, bne_iff_ne, ne_eq, beq_eq_false_iff_ne, bne_eq_false_iff_eq, Bool.not_eq_true', Bool.not_eq_false', Bool.not_eq_true, Bool.not_eq_false, Int.not_le, Int.not_lt, Bool.and_eq_true, Bool.or_eq_true, Bool.or_eq_false_iff, Bool.and_eq_false_iff] at h); (try (first | (exact Bool.noConfusion h) | (exact (h trivial).elim)))) | skip) | ((refine (?_ : ACall _ _ _ _ _ _ _)); first | ((apply acall (spec_nuGcd _ _ ?_ ?_ ?_ ?_)); (focus (repeat' (first | exact rfl | (refine And.intro ?_ ?_) | (simp only [ints_len]; done) | (simp; done) | omega))))) | ((with_reducible refine (?_ : chk _ _ = true)); kernel_rfl) | exact trivial)
        · refine ⟨(_, _), ?_, ?_, none, And.intro rfl (And.intro (by repeat' (first | exact trivial | exact rfl | (refine And.intro ?_ ?_))) (by repeat' (first | exact trivial | exact rfl | (refine And.intro ?_ ?_))))⟩
          · dsimp only; rw [wx4]; refine ⟨by omega, by omega, ?_⟩; rw [hst]; simp [e3.1 ‹b = true›]
          · dsimp only; omega
        · refine ⟨(_, _), ?_, ?_, none, And.intro rfl (And.intro (by repeat' (first | exact trivial | exact rfl | (refine And.intro ?_ ?_))) (by repeat' (first | exact trivial | exact rfl | (refine And.intro ?_ ?_))))⟩
          · dsimp only; rw [wx4]; refine ⟨by omega, by omega, ?_⟩; rw [wx, wx1, w4, hm1] at h; rw [hst]; simp [h]
          · dsimp only; omega
        · refine ⟨(_, _), ?_, ?_, none, And.intro rfl (And.intro (by repeat' (first | exact trivial | exact rfl | (refine And.intro ?_ ?_))) (by repeat' (first | exact trivial | exact rfl | (refine And.intro ?_ ?_))))⟩
          · dsimp only; rw [wx4]; refine ⟨by omega, by omega, ?_⟩; rw [wx, wx1, w4, hm1] at h; rw [wx, wx2, wx3, w4, hst, beq_iff_eq, hm2, ← e3]; simp [*]
          · dsimp only; omega
        · rename_i q1 q2
          refine ⟨(_, _, _), ?_, ?_, none, And.intro rfl (And.intro (by repeat' (first | exact trivial | exact rfl | (refine And.intro ?_ ?_))) (by repeat' (first | exact trivial | exact rfl | (refine And.intro ?_ ?_))))⟩
          · dsimp only
            rw [wr (by omega), stepR, if_pos (by rw [w4] at h; simp [prB, (done (by omega)).1 q2]; omega), ints_app, ← g3]
            exact ⟨by simp, by omega, by omega, rfl⟩
          · dsimp only; rw [wr (by omega)]; omega
        · rename_i q1 q2
          refine ⟨(_, _, _), ?_, ?_, none, And.intro rfl (And.intro (by repeat' (first | exact trivial | exact rfl | (refine And.intro ?_ ?_))) (by repeat' (first | exact trivial | exact rfl | (refine And.intro ?_ ?_))))⟩
          · dsimp only
            rw [wr (by omega), stepR, if_neg (by rw [w4] at h; simp [prB]; omega), List.append_nil]
            exact ⟨g0, by omega, by omega, g3⟩
          · dsimp only; rw [wr (by omega)]; omega
        · rename_i q1 q2
          refine ⟨(_, _, _), ?_, ?_, none, And.intro rfl (And.intro (by repeat' (first | exact trivial | exact rfl | (refine And.intro ?_ ?_))) (by repeat' (first | exact trivial | exact rfl | (refine And.intro ?_ ?_))))⟩
          · dsimp only
            rw [wr (by omega), stepR, if_neg (by simp [prB]; intro hp; rw [(done (by omega)).2 hp] at q2; cases q2), List.append_nil]
            exact ⟨g0, by omega, by omega, g3⟩
          · dsimp only; rw [wr (by omega)]; omega
    · rw [hR, show (4 * n).toNat = r.toNat by omega, g0, g3]; simp
    · simp; omega
    · rw [hR, show (4 * n).toNat = r.toNat by omega]; exact g3

/-- A slice of truth values. -/
def bools (f : Nat → Bool) (m : Nat) : List (List Value) := (List.range m).map fun r => [.bool (f r)]
@[simp] theorem bools_len (f : Nat → Bool) (m : Nat) : (bools f m).length = m := by simp [bools]
theorem bools_at {f : Nat → Bool} {m : Nat} {i : Int} {k : List Value → Prop} (h : 0 ≤ i ∧ i < m) (hk : k [.bool (f i.toNat)]) : ∃ es, (bools f m)[i.toNat]? = some es ∧ k es := ⟨_, by simp only [bools, List.getElem?_map]; rw [List.getElem?_range (by omega)]; rfl, hk⟩
theorem bools_at2 {f : Nat → Bool} {m j : Nat} {i : Int} {k : List Value → Prop} (h : 0 ≤ i ∧ i < m) (hk : ∀ b, k [.bool b]) : ∃ es, ((bools f m).set j [.bool true])[i.toNat]? = some es ∧ k es := by
  rw [List.getElem?_set]
  by_cases e : j = i.toNat
  · rw [if_pos e, if_pos (by simp; omega)]; exact ⟨_, rfl, hk _⟩
  · rw [if_neg e]; exact bools_at h (hk _)
theorem bools_set {f : Nat → Bool} {m : Nat} {i : Nat} : (bools f m).set i [.bool true] = bools (fun r => f r || decide (r = i)) m := by
  apply List.ext_getElem?
  intro j
  rw [List.getElem?_set]
  by_cases e : i = j
  · subst e
    simp only [bools, if_true, List.length_map, List.length_range, List.getElem?_map]
    by_cases h : i < m
    · rw [if_pos h, List.getElem?_range h]; simp
    · rw [if_neg h, List.getElem?_eq_none (by simp; omega)]; rfl
  · rw [if_neg e]
    simp only [bools, List.getElem?_map]
    by_cases h : j < m
    · rw [List.getElem?_range h]; simp; omega
    · rw [List.getElem?_eq_none (by simp; omega)]; rfl
noncomputable def prH (n X : Int) (r : Nat) : Bool := @decide (prS n X r) (Classical.propDecidable _)

theorem impl_PrincipalResidues (n : Int) : AFun Try.prog 19 [] [I n] (PS (prR n).length (decide (1 ≤ n) && decide (n ≤ 500))) [] [FI (prR n)] := by
  refine afun_intro fn19 (by simp) rfl (by repeat' (first | exact trivial | (simp; done) | refine ⟨?_, ?_⟩)) ?_
  unfold ac19
  repeat' (first | ((with_reducible refine (?_ : (_ : Bool) = _)); (with_reducible rfl)) | ((with_reducible refine (?_ : (_ : Nat × Nat) = _)); (with_reducible rfl)) | (with_reducible refine leafRI ?_) | (with_reducible refine leafRB ?_) | (with_reducible refine leafI ?_) | (with_reducible refine leafB ?_) | ((with_reducible refine (?_ : (_ : Int) ≠ 0)); (first | assumption | omega | (simp only [ints_len] at *; omega) | (simp; omega))) | ((with_reducible refine (?_ : (_ : Int) ≤ _)); (first | assumption | omega | (simp only [ints_len] at *; omega) | (simp; omega))) | ((with_reducible refine (?_ : (_ : Int) < _)); (first | assumption | omega | (simp only [ints_len] at *; omega) | (simp; omega))) | ((with_reducible refine (?_ : (_ : Nat) ≤ _)); (first | omega | (simp only [List.length_cons, List.length_nil]; omega) | (simp; omega))) | ((with_reducible refine (?_ : (_ : Nat) = _)); (first | (with_reducible rfl) | (simp; done) | (simp only [fr_len]) | (simp only [ints_len]) | omega | (simp [*]; done))) | (refine And.intro ?_ ?_) | (intro h; first | (exact Bool.noConfusion h) | ((simp only [decide_eq_true_eq, decide_eq_false_iff_not, beq_iff_eq, bne_iff_ne, ne_eq, beq_eq_false_iff_ne, bne_eq_false_iff_eq, Bool.not_eq_true', Bool.not_eq_false', Bool.not_eq_true, Bool.not_eq_false, Int.not_le, Int.not_lt, Bool.and_eq_true, Bool.or_eq_true, Bool.or_eq_false_iff, Bool.and_eq_false_iff] at h); (try (first | (exact Bool.noConfusion h) | (exact (h trivial).elim)))) | skip) | ((refine (?_ : ACall _ _ _ _ _ _ _)); first | ((apply acall (impl_isFactor _)); (focus (repeat' (first | exact rfl | (refine And.intro ?_ ?_) | (simp only [ints_len]; done) | (simp; done) | omega))))) | ((with_reducible refine (?_ : chk _ _ = true)); kernel_rfl) | exact trivial)
  · simp [prR, show ¬ (1 ≤ n ∧ n ≤ 500) by omega]
  · simp; omega
  · simp [prR, show ¬ (1 ≤ n ∧ n ≤ 500) by omega, ints]
  any_goals ((with_reducible refine (?_ : (_ : Int) ≤ _)); (simp (disch := omega) only [wrap_small]); omega)
  have hR : prR n = prL n (4 * n).toNat := by simp [prR, h]
  have w4 : wrap64 (4 * n) = 4 * n := wrap_small (by omega) (by omega)
  repeat' (first | ((with_reducible refine (?_ : (_ : Bool) = _)); (with_reducible rfl)) | ((with_reducible refine (?_ : (_ : Nat × Nat) = _)); (with_reducible rfl)) | (with_reducible refine leafRI ?_) | (with_reducible refine leafRB ?_) | (with_reducible refine leafI ?_) | (with_reducible refine leafB ?_) | ((with_reducible refine (?_ : (_ : Int) ≠ 0)); (first | assumption | omega | (simp only [ints_len] at *; omega) | (simp; omega))) | ((with_reducible refine (?_ : (_ : Int) ≤ _)); (first | assumption | omega | (simp only [ints_len] at *; omega) | (simp; omega))) | ((with_reducible refine (?_ : (_ : Int) < _)); (first | assumption | omega | (simp only [ints_len] at *; omega) | (simp; omega))) | ((with_reducible refine (?_ : (_ : Nat) ≤ _)); (first | omega | (simp only [List.length_cons, List.length_nil]; omega) | (simp; omega))) | ((with_reducible refine (?_ : (_ : Nat) = _)); (first | (with_reducible rfl) | (simp; done) | (simp only [fr_len]) | (simp only [ints_len]) | omega | (simp [*]; done))) | (refine And.intro ?_ ?_) | (intro h; first | (exact Bool.noConfusion h) | ((simp only [decide_eq_true_eq, decide_eq_false_iff_not, beq_iff_eq, bne_iff_ne, ne_eq, beq_eq_false_iff_ne, bne_eq_false_iff_eq, Bool.not_eq_true', Bool.not_eq_false', Bool.not_eq_true, Bool.not_eq_false, Int.not_le, Int.not_lt, Bool.and_eq_true, Bool.or_eq_true, Bool.or_eq_false_iff, Bool.and_eq_false_iff] at h); (try (first | (exact Bool.noConfusion h) | (exact (h trivial).elim)))) | skip) | ((with_reducible refine (?_ : chk _ _ = true)); kernel_rfl) | exact trivial)
  refine loop_rule (σ := List (List Value) × Int) (fun s => [(5, I s.2)]) (fun s => [((2, 0), .fl 3 1 []), ((15, 0), .fl 4 1 s.1)]) (fun s => 0 ≤ s.2 ∧ s.2 ≤ 4 * n ∧ s.1 = bools (prH n s.2) (4 * n).toNat) (fun s => (4 * n - s.2).toNat) ((List.replicate (wrap64 (4 * n)).toNat [.bool false], 0)) ?_ (by repeat' (first | exact trivial | exact rfl | (refine And.intro ?_ ?_))) (by repeat' (first | exact trivial | exact rfl | (refine And.intro ?_ ?_))) (fun s => ⟨rfl, rfl⟩) (fun s i h => by first | exact absurd h (Nat.not_lt_zero i) | (cases i with | zero => rfl | succ i => exact absurd (Nat.lt_of_succ_lt_succ h) (Nat.not_lt_zero i))) ?_
  · refine ⟨by dsimp only; omega, by dsimp only; omega, ?_⟩
    dsimp only
    rw [w4]
    apply List.ext_getElem?
    intro j
    have h0 : ∀ r, prH n 0 r = false := fun r => by
      simp only [prH, decide_eq_false_iff_not]
      rintro ⟨x, h1, h2, _⟩; omega
    rw [List.getElem?_replicate]
    simp only [bools, List.getElem?_map, h0]
    split
    · rw [List.getElem?_range (by assumption)]; rfl
    · rw [List.getElem?_eq_none (by simp; omega)]; rfl
  · rintro ⟨R, x⟩ ⟨g1, g2, g3⟩
    dsimp only at g1 g2 g3 ⊢
    subst g3
    have x2 := mul_bd (a := x) (b := x) (A := 2000) (B := 2000) (by omega) (by omega) (by omega) (by omega)
    have x3 : 0 ≤ x * x := Int.mul_nonneg g1 g1
    have wx : wrap64 (x * x) = x * x := wrap_small (by omega) (by omega)
    have wx2 : wrap64 (x * x + n) = x * x + n := wrap_small (by omega) (by omega)
    have wx4 : wrap64 (x + 1) = x + 1 := wrap_small (by omega) (by omega)
    have t1 : (wrap64 (x * x)).tmod (wrap64 (4 * n)) = x * x % (4 * n) := by rw [wx, w4, tmod_nonneg' x3]
    have t2 : (wrap64 (wrap64 (x * x) + n)).tmod (wrap64 (4 * n)) = (x * x + n) % (4 * n) := by rw [wx, wx2, w4, tmod_nonneg' (by omega)]
    have m1 := Int.emod_nonneg (x * x) (show 4 * n ≠ 0 by omega)
    have m2 := Int.emod_lt_of_pos (x * x) (show 0 < 4 * n by omega)
    have m3 := Int.emod_nonneg (x * x + n) (show 4 * n ≠ 0 by omega)
    have m4 := Int.emod_lt_of_pos (x * x + n) (show 0 < 4 * n by omega)
    have m5 : (wrap64 (4 * n)).toNat = (4 * n).toNat := by rw [w4]
    have hst : ∀ r : Nat, prH n (x + 1) r = (prH n x r || decide ((r : Int) = x * x % (4 * n)) || decide ((r : Int) = (x * x + n) % (4 * n))) := fun r => by
      rw [Bool.eq_iff_iff]
      simp [prH, prS_step g1, or_assoc]
    repeat' (first | ((with_reducible refine (?_ : (_ : Bool) = _)); (with_reducible rfl)) | ((with_reducible refine (?_ : (_ : Nat × Nat) = _)); (with_reducible rfl)) | (with_reducible refine leafRI ?_) | (with_reducible refine leafRB ?_) | (with_reducible refine leafI ?_) | (with_reducible refine leafB ?_) | ((with_reducible refine (?_ : (_ : Int) ≠ 0)); (first | assumption | omega | (simp only [ints_len] at *; omega) | (simp; omega))) | ((with_reducible refine (?_ : (_ : Int) ≤ _)); (first | assumption | omega | (simp only [ints_len] at *; omega) | (simp; omega))) | ((with_reducible refine (?_ : (_ : Int) < _)); (first | assumption | omega | (simp only [ints_len] at *; omega) | (simp; omega))) | ((with_reducible refine (?_ : (_ : Nat) ≤ _)); (first | omega | (simp only [List.length_cons, List.length_nil]; omega) | (simp; omega))) | ((with_reducible refine (?_ : (_ : Nat) = _)); (first | (with_reducible rfl) | (simp; done) | (simp only [fr_len]) | (simp only [ints_len]) | omega | (simp [*]; done))) | ((with_reducible refine bools_at ?_ ?_); (focus (constructor <;> omega))) | ((with_reducible refine bools_at2 ?_ ?_); (focus (constructor <;> omega)); (intro b)) | (refine And.intro ?_ ?_) | (intro h; first | (exact Bool.noConfusion h) | ((simp only [decide_eq_true_eq, decide_eq_false_iff_not, beq_iff_eq, bne_iff_ne, ne_eq, beq_eq_false_iff_ne, bne_eq_false_iff_eq, Bool.not_eq_true', Bool.not_eq_false', Bool.not_eq_true, Bool.not_eq_false, Int.not_le, Int.not_lt, Bool.and_eq_true, Bool.or_eq_true, Bool.or_eq_false_iff, Bool.and_eq_false_iff] at h); (try (first | (exact Bool.noConfusion h) | (exact (h trivial).elim)))) | skip) | ((with_reducible refine (?_ : chk _ _ = true)); kernel_rfl) | exact trivial)
    · refine ⟨(_, _), ?_, ?_, none, And.intro rfl (And.intro (by repeat' (first | exact trivial | exact rfl | (refine And.intro ?_ ?_))) (by repeat' (first | exact trivial | exact rfl | (refine And.intro ?_ ?_))))⟩
      · dsimp only
        rw [wx4, t1, t2, bools_set, bools_set]
        refine ⟨by omega, by omega, ?_⟩
        congr 1
        funext r
        rw [hst r, Bool.eq_iff_iff]
        simp only [Bool.or_eq_true, decide_eq_true_eq]
        constructor <;> (rintro ((h | h) | h) <;> first | (left; left; exact h) | (left; right; omega) | (right; omega))
      · dsimp only; omega
    · have hx : x = 4 * n := by omega
      refine loop_rule (σ := Nat × List (List Value) × Int) (fun s => [(6, .c (.slc (40, 0) s.1)), (43, I s.2.2)]) (fun s => [((2, 0), .fl 3 1 []), ((15, 0), .fl 4 1 (bools (prH n x) (4 * n).toNat)), ((40, 0), .fl 3 1 s.2.1)]) (fun s => s.1 = s.2.1.length ∧ 0 ≤ s.2.2 ∧ s.2.2 ≤ 4 * n ∧ s.2.1 = ints (prL n s.2.2.toNat)) (fun s => (4 * n - s.2.2).toNat) ((0, [], 0)) ?_ (by repeat' (first | exact trivial | exact rfl | (refine And.intro ?_ ?_))) (by repeat' (first | exact trivial | exact rfl | (refine And.intro ?_ ?_))) (fun s => ⟨rfl, rfl⟩) (fun s i h => by first | exact absurd h (Nat.not_lt_zero i) | (cases i with | zero => rfl | succ i => exact absurd (Nat.lt_of_succ_lt_succ h) (Nat.not_lt_zero i))) ?_
      · exact ⟨rfl, by dsimp only; omega, by dsimp only; omega, rfl⟩
      · rintro ⟨c, R, r⟩ ⟨k0, k1, k2, k3⟩
        dsimp only at k0 k1 k2 k3 ⊢
        have hA := prL_len n r.toNat
        have hRl : R.length ≤ r.toNat := by rw [k3]; simpa using hA
        have wr : r < 4 * n → wrap64 (r + 1) = r + 1 := fun h => wrap_small (by omega) (by omega)
        have stepR : prL n (r + 1).toNat = prL n r.toNat ++ if prB n r then [r] else [] := by
          rw [show (r + 1).toNat = r.toNat + 1 by omega, prL, show ((r.toNat : Nat) : Int) = r by omega]
        have hH : prH n x r.toNat = true ↔ prS n (2 * n) r := by
          rw [hx]; simp only [prH, decide_eq_true_eq]; rw [show ((r.toNat : Nat) : Int) = r by omega]; exact prS_four (by omega)
        repeat' (first | ((with_reducible refine (?_ : (_ : Bool) = _)); (with_reducible rfl)) | ((with_reducible refine (?_ : (_ : Nat × Nat) = _)); (with_reducible rfl)) | (with_reducible refine leafRI ?_) | (with_reducible refine leafRB ?_) | (with_reducible refine leafI ?_) | (with_reducible refine leafB ?_) | ((with_reducible refine (?_ : (_ : Int) ≠ 0)); (first | assumption | omega | (simp only [ints_len] at *; omega) | (simp; omega))) | ((with_reducible refine (?_ : (_ : Int) ≤ _)); (first | assumption | omega | (simp only [ints_len] at *; omega) | (simp; omega))) | ((with_reducible refine (?_ : (_ : Int) < _)); (first | assumption | omega | (simp only [ints_len] at *; omega) | (simp; omega))) | ((with_reducible refine (?_ : (_ : Nat) ≤ _)); (first | omega | (simp only [List.length_cons, List.length_nil]; omega) | (simp; omega))) | ((with_reducible refine (?_ : (_ : Nat) = _)); (first | (with_reducible rfl) | (simp; done) | (simp only [fr_len]) | (simp only [ints_len]) | omega | (simp [*]; done))) | ((with_reducible refine bools_at ?_ ?_); (focus (constructor <;> omega))) | ((with_reducible refine bools_at2 ?_ ?_); (focus (constructor <;> omega)); (intro b)) | (refine And.intro ?_ ?_) | (intro h; first | (exact Bool.noConfusion h) | ((simp only [decide_eq_true_eq, decide_eq_false_iff_not, beq_iff_eq, bne_iff_ne, ne_eq, beq_eq_false_iff_ne, bne_eq_false_iff_eq, Bool.not_eq_true', Bool.not_eq_false', Bool.not_eq_true, Bool.not_eq_false, Int.not_le, Int.not_lt, Bool.and_eq_true, Bool.or_eq_true, Bool.or_eq_false_iff, Bool.and_eq_false_iff] at h); (try (first | (exact Bool.noConfusion h) | (exact (h trivial).elim)))) | skip) | ((refine (?_ : ACall _ _ _ _ _ _ _)); first | ((apply acall (impl_gcd _ _ ?_ ?_ ?_ ?_)); (focus (repeat' (first | exact rfl | (refine And.intro ?_ ?_) | (simp only [ints_len]; done) | (simp; done) | omega))))) | ((with_reducible refine (?_ : chk _ _ = true)); kernel_rfl) | exact trivial)
        · rename_i q1 q2
          refine ⟨(_, _, _), ?_, ?_, none, And.intro rfl (And.intro (by repeat' (first | exact trivial | exact rfl | (refine And.intro ?_ ?_))) (by repeat' (first | exact trivial | exact rfl | (refine And.intro ?_ ?_))))⟩
          · dsimp only
            rw [wr (by omega), stepR, if_pos (by rw [w4] at h; simp [prB, hH.1 q2]; omega), ints_app, ← k3]
            exact ⟨by simp, by omega, by omega, rfl⟩
          · dsimp only; rw [wr (by omega)]; omega
        · rename_i q1 q2
          refine ⟨(_, _, _), ?_, ?_, none, And.intro rfl (And.intro (by repeat' (first | exact trivial | exact rfl | (refine And.intro ?_ ?_))) (by repeat' (first | exact trivial | exact rfl | (refine And.intro ?_ ?_))))⟩
          · dsimp only
            rw [wr (by omega), stepR, if_neg (by rw [w4] at h; simp [prB]; omega), List.append_nil]
            exact ⟨k0, by omega, by omega, k3⟩
          · dsimp only; rw [wr (by omega)]; omega
        · rename_i q1 q2
          refine ⟨(_, _, _), ?_, ?_, none, And.intro rfl (And.intro (by repeat' (first | exact trivial | exact rfl | (refine And.intro ?_ ?_))) (by repeat' (first | exact trivial | exact rfl | (refine And.intro ?_ ?_))))⟩
          · dsimp only
            rw [wr (by omega), stepR, if_neg (by simp [prB]; intro hp; rw [hH.2 hp] at q2; cases q2), List.append_nil]
            exact ⟨k0, by omega, by omega, k3⟩
          · dsimp only; rw [wr (by omega)]; omega
        · rw [hR, show (4 * n).toNat = r.toNat by omega, k0, k3]; simp
        · simp; omega
        · rw [hR, show (4 * n).toNat = r.toNat by omega]; exact k3

theorem claw_PrincipalResidues (n : Int) : AFun Try.prog 4 [] [I n] (Bo true) [] [] := by
  have hl : (prR n).length ≤ 2000 := by
    unfold prR
    split
    · have := prL_len n (4 * n).toNat
      simp only [Bool.and_eq_true, decide_eq_true_eq] at *
      omega
    · simp
  refine afun_intro fn4 (by simp) rfl (by repeat' (first | exact trivial | (simp; done) | refine ⟨?_, ?_⟩)) ?_
  unfold ac4
  repeat' (first | ((with_reducible refine (?_ : (_ : Bool) = _)); (with_reducible rfl)) | ((with_reducible refine (?_ : (_ : Nat × Nat) = _)); (with_reducible rfl)) | (with_reducible refine leafRI ?_) | (with_reducible refine leafRB ?_) | (with_reducible refine leafI ?_) | (with_reducible refine leafB ?_) | ((with_reducible refine (?_ : (_ : Int) ≠ 0)); (first | assumption | omega | (simp only [ints_len] at *; omega) | (simp; omega))) | ((with_reducible refine (?_ : (_ : Int) ≤ _)); (first | assumption | omega | (simp only [ints_len] at *; omega) | (simp; omega))) | ((with_reducible refine (?_ : (_ : Int) < _)); (first | assumption | omega | (simp only [ints_len] at *; omega) | (simp; omega))) | ((with_reducible refine (?_ : (_ : Nat) ≤ _)); (first | omega | (simp only [List.length_cons, List.length_nil]; omega) | (simp; omega))) | ((with_reducible refine (?_ : (_ : Nat) = _)); (first | (with_reducible rfl) | (simp; done) | (simp only [fr_len]) | (simp only [ints_len]) | omega | (simp [*]; done))) | (refine And.intro ?_ ?_) | (intro h; first | (exact Bool.noConfusion h) | ((simp only [decide_eq_true_eq, decide_eq_false_iff_not, beq_iff_eq, bne_iff_ne, ne_eq, beq_eq_false_iff_ne, bne_eq_false_iff_eq, Bool.not_eq_true', Bool.not_eq_false', Bool.not_eq_true, Bool.not_eq_false, Int.not_le, Int.not_lt, Bool.and_eq_true, Bool.or_eq_true, Bool.or_eq_false_iff, Bool.and_eq_false_iff] at h); (try (first | (exact Bool.noConfusion h) | (exact (h trivial).elim)))) | skip) | ((refine (?_ : ACall _ _ _ _ _ _ _)); first | ((apply acall (spec_PrincipalResidues _)); (focus (repeat' (first | exact rfl | (refine And.intro ?_ ?_) | (simp only [ints_len]; done) | (simp; done) | omega)))) | ((apply acall (impl_PrincipalResidues _)); (focus (repeat' (first | exact rfl | (refine And.intro ?_ ?_) | (simp only [ints_len]; done) | (simp; done) | omega)))) | ((apply acall (laws_eqIntS _ _ ?_ ?_)); (focus (repeat' (first | exact rfl | (refine And.intro ?_ ?_) | (simp only [ints_len]; done) | (simp; done) | omega)))) | ((apply alent (laws_markIntS _ _ ?_ ?_ ?_)); (focus (exact rfl)); (focus (repeat' (first | exact rfl | (refine And.intro ?_ ?_) | (simp only [ints_len]; done) | (simp; done) | omega))); (focus (exact rfl))) | ((apply acall (laws_heldIntS _ _ ?_ ?_ ?_)); (focus (repeat' (first | exact rfl | (refine And.intro ?_ ?_) | (simp only [ints_len]; done) | (simp; done) | omega))))) | ((with_reducible refine (?_ : chk _ _ = true)); kernel_rfl) | exact trivial)
  all_goals simp_all

theorem law_PrincipalResidues (n : Int) (w : World) : Calls Try.prog 4 #[.int .i64 n] w fun e w' => e = .returned (.bool (true)) ∧ Below w.heap.size w w' := by
  exact law_of_afun (claw_PrincipalResidues n) rfl w

end Go.Proofs.Ytnpmkomnafdgnaa
