/- CornacchiaSteps. -/
import Derived.Test.YtnpmkomnafdgnaaF14
namespace Go.Proofs.Ytnpmkomnafdgnaa
set_option linter.unusedSimpArgs false
set_option linter.unusedVariables false
open Go.RowKit
set_option maxRecDepth 100000

/-- The first of n integers from i on at which f holds. -/
def find (f : Int → Bool) : Nat → Int → Option Int
  | 0, _ => none
  | n + 1, i => if f i then some i else find f n (i + 1)
theorem find_none {f : Int → Bool} {hi i : Int} (h : hi ≤ i) : find f (hi - i).toNat i = none := by rw [show (hi - i).toNat = 0 by omega]; rfl
theorem find_hit {f : Int → Bool} {hi i : Int} (h : i < hi) (hf : f i = true) : find f (hi - i).toNat i = some i := by
  rw [show (hi - i).toNat = (hi - (i + 1)).toNat + 1 by omega, find, if_pos hf]
theorem find_next {f : Int → Bool} {hi i : Int} (h : i < hi) (hf : f i = false) : find f (hi - i).toNat i = find f (hi - (i + 1)).toNat (i + 1) := by
  rw [show (hi - i).toNat = (hi - (i + 1)).toNat + 1 by omega, find, if_neg (by simp [hf])]
theorem find_some {f : Int → Bool} : ∀ {n : Nat} {i r : Int}, find f n i = some r → i ≤ r ∧ r < i + n ∧ f r = true
  | 0, i, r, h => by cases h
  | n + 1, i, r, h => by
    simp only [find] at h
    split at h
    · cases h; exact ⟨by omega, by omega, by assumption⟩
    · have := find_some h; exact ⟨by omega, by omega, this.2.2⟩

/-- The remainders of a and b, down to the root of p. -/
def euL (p a b : Int) : List Int := if h : p < b * b ∧ 0 < b then (a.tmod b) :: euL p b (a.tmod b) else []
termination_by b.toNat
decreasing_by
  have := Int.tmod_lt_of_pos a h.2
  omega
theorem euL_stop {p a b : Int} (h : b * b ≤ p) : euL p a b = [] := by rw [euL, dif_neg (by omega)]
theorem euL_step {p a b : Int} (h : p < b * b) (hb : 0 < b) : euL p a b = a.tmod b :: euL p b (a.tmod b) := by rw [euL, dif_pos ⟨h, hb⟩]
def csF (n p r : Int) : Bool := (r * r + n).tmod p == 0
def csO (p : Int) (o : Option Int) : List Int := match o with
  | some r => [p, r] ++ euL p p r
  | none => []
def csL (n p : Int) : List Int := csO p (find (csF n p) (p - (p / 2 + 1)).toNat (p / 2 + 1))
noncomputable def csG (n p : Int) : Bool := decide (1 ≤ n) && decide (n ≤ 500) && shp p && !decide (p = 2) && !decide (n.tmod p = 0) && !decide (csL n p = [])
noncomputable def csR (n p : Int) : List Int := if csG n p then csL n p else []

theorem spec_ipSteps (n p : Int) (h1 : 1 ≤ n) (h2 : n ≤ 500) (h3 : 2 ≤ p) (h4 : p ≤ 10000) : AFun Try.prog 60 [] [I n, I p] (.c (.slc (0, 0) (csL n p).length)) [] [FI (csL n p)] := by
  have w0 : wrap64 (p.tdiv 2) = p / 2 := by rw [tdiv_nonneg' (by omega)]; exact wrap_small (by omega) (by omega)
  refine afun_intro fn60 (by simp) rfl (by repeat' (first | exact trivial | (simp; done) | refine ⟨?_, ?_⟩)) ?_
  unfold ac60
  repeat' (first | ((with_reducible refine (?_ : (_ : Bool) = _)); (with_reducible rfl)) | ((with_reducible refine (?_ : (_ : Nat × Nat) = _)); (with_reducible rfl)) | (with_reducible refine leafRI ?_) | (with_reducible refine leafRB ?_) | (with_reducible refine leafI ?_) | (with_reducible refine leafB ?_) | ((with_reducible refine (?_ : (_ : Int) ≠ 0)); (first | assumption | omega | (simp only [ints_len] at *; omega) | (simp; omega))) | ((with_reducible refine (?_ : (_ : Int) ≤ _)); (first | assumption | omega | (simp only [ints_len] at *; omega) | (simp; omega))) | ((with_reducible refine (?_ : (_ : Int) < _)); (first | assumption | omega | (simp only [ints_len] at *; omega) | (simp; omega))) | ((with_reducible refine (?_ : (_ : Nat) ≤ _)); (first | omega | (simp only [List.length_cons, List.length_nil]; omega) | (simp; omega))) | ((with_reducible refine (?_ : (_ : Nat) = _)); (first | (with_reducible rfl) | (simp; done) | (simp only [fr_len]) | (simp only [ints_len]) | omega | (simp [*]; done))) | (refine And.intro ?_ ?_) | (intro h; first | (exact Bool.noConfusion h) | ((simp only [decide_eq_true_eq, decide_eq_false_iff_not, beq_iff_eq, bne_iff_ne, ne_eq, beq_eq_false_iff_ne, bne_eq_false_iff_eq, Bool.not_eq_true', Bool.not_eq_false', Bool.not_eq_true, Bool.not_eq_false, Int.not_le, Int.not_lt, Bool.and_eq_true, Bool.or_eq_true, Bool.or_eq_false_iff, Bool.and_eq_false_iff] at h); (try (first | (exact Bool.noConfusion h) | (exact (h trivial).elim)))) | skip) | ((with_reducible refine (?_ : chk _ _ = true)); kernel_rfl) | exact trivial)
  refine loop_rule (σ := Int) (fun s => [(5, I s)]) (fun s => [((4, 0), .fl 3 1 [])]) (fun s => p / 2 + 1 ≤ s ∧ s ≤ p ∧ csL n p = csO p (find (csF n p) (p - s).toNat s)) (fun s => (p - s).toNat) (wrap64 (wrap64 (p.tdiv 2) + 1)) ?_ (by repeat' (first | exact trivial | exact rfl | (refine And.intro ?_ ?_))) (by repeat' (first | exact trivial | exact rfl | (refine And.intro ?_ ?_))) (fun s => ⟨rfl, rfl⟩) (fun s i h => by first | exact absurd h (Nat.not_lt_zero i) | (cases i with | zero => rfl | succ i => exact absurd (Nat.lt_of_succ_lt_succ h) (Nat.not_lt_zero i))) ?_
  · rw [w0, wrap_small (by omega) (by omega)]
    exact ⟨by omega, by omega, rfl⟩
  · rintro r ⟨g1, g2, g3⟩
    have r2 := mul_bd (a := r) (b := r) (A := 10000) (B := 10000) (by omega) (by omega) (by omega) (by omega)
    have w1 : wrap64 (r * r) = r * r := wrap_small (by omega) (by omega)
    have w2 : wrap64 (r * r + n) = r * r + n := wrap_small (by omega) (by omega)
    have w3 : wrap64 (r + 1) = r + 1 := wrap_small (by omega) (by omega)
    repeat' (first | ((with_reducible refine (?_ : (_ : Bool) = _)); (with_reducible rfl)) | ((with_reducible refine (?_ : (_ : Nat × Nat) = _)); (with_reducible rfl)) | (with_reducible refine leafRI ?_) | (with_reducible refine leafRB ?_) | (with_reducible refine leafI ?_) | (with_reducible refine leafB ?_) | ((with_reducible refine (?_ : (_ : Int) ≠ 0)); (first | assumption | omega | (simp only [ints_len] at *; omega) | (simp; omega))) | ((with_reducible refine (?_ : (_ : Int) ≤ _)); (first | assumption | omega | (simp only [ints_len] at *; omega) | (simp; omega))) | ((with_reducible refine (?_ : (_ : Int) < _)); (first | assumption | omega | (simp only [ints_len] at *; omega) | (simp; omega))) | ((with_reducible refine (?_ : (_ : Nat) ≤ _)); (first | omega | (simp only [List.length_cons, List.length_nil]; omega) | (simp; omega))) | ((with_reducible refine (?_ : (_ : Nat) = _)); (first | (with_reducible rfl) | (simp; done) | (simp only [fr_len]) | (simp only [ints_len]) | omega | (simp [*]; done))) | (refine And.intro ?_ ?_) | (intro h; first | (exact Bool.noConfusion h) | ((simp only [decide_eq_true_eq, decide_eq_false_iff_not, beq_iff_eq, bne_iff_ne, ne_eq, beq_eq_false_iff_ne, bne_eq_false_iff_eq, Bool.not_eq_true', Bool.not_eq_false', Bool.not_eq_true, Bool.not_eq_false, Int.not_le, Int.not_lt, Bool.and_eq_true, Bool.or_eq_true, Bool.or_eq_false_iff, Bool.and_eq_false_iff] at h); (try (first | (exact Bool.noConfusion h) | (exact (h trivial).elim)))) | skip) | ((with_reducible refine (?_ : chk _ _ = true)); kernel_rfl) | exact trivial)
    · refine ⟨_, ?_, ?_, none, And.intro rfl (And.intro (by repeat' (first | exact trivial | exact rfl | (refine And.intro ?_ ?_))) (by repeat' (first | exact trivial | exact rfl | (refine And.intro ?_ ?_))))⟩
      · rw [w3]
        rw [w1, w2] at h
        refine ⟨by omega, by omega, ?_⟩
        rw [g3, find_next (by omega) (by simpa [csF] using h)]
      · rw [w3]; omega
    · rw [w1, w2] at h
      rename_i hr
      have hL : csL n p = [p, r] ++ euL p p r := by rw [g3, find_hit hr (by simpa [csF] using h)]; rfl
      refine loop_rule (σ := Nat × List (List Value) × Int × Int) (fun s => [(6, .c (.slc (27, 0) s.1)), (7, I s.2.2.1), (8, I s.2.2.2)]) (fun s => [((4, 0), .fl 3 1 []), ((27, 0), .fl 3 1 s.2.1)]) (fun s => s.1 = s.2.1.length ∧ 0 ≤ s.2.2.1 ∧ 0 ≤ s.2.2.2 ∧ s.2.2.2 ≤ 10000 ∧ s.1 + s.2.2.2.toNat ≤ 20000 ∧ s.2.1 ++ ints (euL p s.2.2.1 s.2.2.2) = ints (csL n p)) (fun s => s.2.2.2.toNat) ((2, ints [p, r], p, r)) ?_ (by repeat' (first | exact trivial | exact rfl | (refine And.intro ?_ ?_))) (by repeat' (first | exact trivial | exact rfl | (refine And.intro ?_ ?_))) (fun s => ⟨rfl, rfl⟩) (fun s i h => by first | exact absurd h (Nat.not_lt_zero i) | (cases i with | zero => rfl | succ i => exact absurd (Nat.lt_of_succ_lt_succ h) (Nat.not_lt_zero i))) ?_
      · exact ⟨rfl, by dsimp only; omega, by dsimp only; omega, by dsimp only; omega, by dsimp only; omega, by dsimp only; rw [hL, ints_app]⟩
      · rintro ⟨c, R, a, b⟩ ⟨k0, k1, k2, k3, k4, k5⟩
        dsimp only at k0 k1 k2 k3 k4 k5 ⊢
        have b2 := mul_bd (a := b) (b := b) (A := 10000) (B := 10000) (by omega) (by omega) (by omega) (by omega)
        have w4 : wrap64 (b * b) = b * b := wrap_small (by omega) (by omega)
        have b0 : p < b * b → 0 < b := fun h => by
          rcases Int.lt_or_le 0 b with h' | h'
          · exact h'
          · rw [show b = 0 by omega] at h; omega
        repeat' (first | ((with_reducible refine (?_ : (_ : Bool) = _)); (with_reducible rfl)) | ((with_reducible refine (?_ : (_ : Nat × Nat) = _)); (with_reducible rfl)) | (with_reducible refine leafRI ?_) | (with_reducible refine leafRB ?_) | (with_reducible refine leafI ?_) | (with_reducible refine leafB ?_) | ((with_reducible refine (?_ : (_ : Int) ≠ 0)); (first | assumption | omega | (simp only [ints_len] at *; omega) | (simp; omega))) | ((with_reducible refine (?_ : (_ : Int) ≤ _)); (first | assumption | omega | (simp only [ints_len] at *; omega) | (simp; omega))) | ((with_reducible refine (?_ : (_ : Int) < _)); (first | assumption | omega | (simp only [ints_len] at *; omega) | (simp; omega))) | ((with_reducible refine (?_ : (_ : Nat) ≤ _)); (first | omega | (simp only [List.length_cons, List.length_nil]; omega) | (simp; omega))) | ((with_reducible refine (?_ : (_ : Nat) = _)); (first | (with_reducible rfl) | (simp; done) | (simp only [fr_len]) | (simp only [ints_len]) | omega | (simp [*]; done))) | (refine And.intro ?_ ?_) | (intro h; first | (exact Bool.noConfusion h) | ((simp only [decide_eq_true_eq, decide_eq_false_iff_not, beq_iff_eq, bne_iff_ne, ne_eq, beq_eq_false_iff_ne, bne_eq_false_iff_eq, Bool.not_eq_true', Bool.not_eq_false', Bool.not_eq_true, Bool.not_eq_false, Int.not_le, Int.not_lt, Bool.and_eq_true, Bool.or_eq_true, Bool.or_eq_false_iff, Bool.and_eq_false_iff] at h); (try (first | (exact Bool.noConfusion h) | (exact (h trivial).elim)))) | skip) | ((with_reducible refine (?_ : chk _ _ = true)); kernel_rfl) | exact trivial)
        · rw [w4] at h
          have hb := b0 h
          have e1 := tmod_nonneg' (m := b) k1
          have e2 := Int.emod_nonneg a (show b ≠ 0 by omega)
          have e3 := Int.emod_lt_of_pos a hb
          refine ⟨(_, _, b, a.tmod b), ?_, ?_, none, And.intro rfl (And.intro (by repeat' (first | exact trivial | exact rfl | (refine And.intro ?_ ?_))) (by repeat' (first | exact trivial | exact rfl | (refine And.intro ?_ ?_))))⟩
          · dsimp only
            refine ⟨by simp, by omega, by omega, by omega, by simp only [List.length_cons, List.length_nil]; omega, ?_⟩
            rw [← k5, euL_step h hb, List.append_assoc]; rfl
          · dsimp only; omega
        · rw [w4] at h
          rw [euL_stop h] at k5
          rw [k0, ← ints_len (csL n p), ← k5]; simp [ints]
        · rw [w4] at h
          rw [euL_stop h] at k5
          rw [← k5]; simp [ints]
    · rw [g3, find_none (by omega)]; rfl
    · rw [g3, find_none (by omega)]; rfl

theorem eu_len (p : Int) : ∀ (k : Nat) (a b : Int), b.toNat ≤ k → (euL p a b).length ≤ k
  | 0, a, b, h => by rw [euL, dif_neg (by omega)]; exact Nat.le_refl _
  | k + 1, a, b, h => by
    rw [euL]
    split
    · rename_i hc
      have := Int.tmod_lt_of_pos a hc.2
      have := eu_len p k b (a.tmod b) (by omega)
      simp; omega
    · exact Nat.zero_le _
theorem csL_bd {n p : Int} (h4 : p ≤ 10000) : (csL n p).length ≤ 10002 := by
  unfold csL csO
  split
  · rename_i r hr
    have := (find_some hr).2.1
    have := eu_len p r.toNat p r (Nat.le_refl _)
    have := (find_some hr).1
    simp; omega
  · simp

theorem spec_CornacchiaSteps (n p : Int) : AFun Try.prog 25 [] [I n, I p] (PS (csR n p).length (csG n p)) [] [FI (csR n p)] := by
  have hp := fun h => shp_ge (p := p) h
  refine afun_intro fn25 (by simp) rfl (by repeat' (first | exact trivial | (simp; done) | refine ⟨?_, ?_⟩)) ?_
  unfold ac25
  repeat' (first | ((with_reducible refine (?_ : (_ : Bool) = _)); (with_reducible rfl)) | ((with_reducible refine (?_ : (_ : Nat × Nat) = _)); (with_reducible rfl)) | (with_reducible refine leafRI ?_) | (with_reducible refine leafRB ?_) | (with_reducible refine leafI ?_) | (with_reducible refine leafB ?_) | ((with_reducible refine (?_ : (_ : Int) ≠ 0)); (first | assumption | omega | (simp only [ints_len] at *; omega) | (simp; omega))) | ((with_reducible refine (?_ : (_ : Int) ≤ _)); (first | assumption | omega | (simp only [ints_len] at *; omega) | (simp; omega))) | ((with_reducible refine (?_ : (_ : Int) < _)); (first | assumption | omega | (simp only [ints_len] at *; omega) | (simp; omega))) | ((with_reducible refine (?_ : (_ : Nat) ≤ _)); (first | omega | (simp only [List.length_cons, List.length_nil]; omega) | (simp; omega))) | ((with_reducible refine (?_ : (_ : Nat) = _)); (first | (with_reducible rfl) | (simp; done) | (simp only [fr_len]) | (simp only [ints_len]) | omega | (simp [*]; done))) | (refine And.intro ?_ ?_) | (intro h; first | (exact Bool.noConfusion h) | ((simp only [decide_eq_true_eq, decide_eq_false_iff_not, beq_iff_eq, bne_iff_ne, ne_eq, beq_eq_false_iff_ne, bne_eq_false_iff_eq, Bool.not_eq_true', Bool.not_eq_false', Bool.not_eq_true, Bool.not_eq_false, Int.not_le, Int.not_lt, Bool.and_eq_true, Bool.or_eq_true, Bool.or_eq_false_iff, Bool.and_eq_false_iff] at h); (try (first | (exact Bool.noConfusion h) | (exact (h trivial).elim)))) | skip) | ((refine (?_ : ACall _ _ _ _ _ _ _)); first | ((apply acall (spec_l1In _ _ _)); (focus (repeat' (first | exact rfl | (refine And.intro ?_ ?_) | (simp only [ints_len]; done) | (simp; done) | omega)))) | ((apply acall (spec_ipPrime _)); (focus (repeat' (first | exact rfl | (refine And.intro ?_ ?_) | (simp only [ints_len]; done) | (simp; done) | omega)))) | ((apply acall (spec_ipSteps _ _ ?_ ?_ ?_ ?_)); (focus (repeat' (first | exact rfl | (refine And.intro ?_ ?_) | (simp only [ints_len]; done) | (simp; done) | omega))))) | ((with_reducible refine (?_ : chk _ _ = true)); kernel_rfl) | exact trivial)
  any_goals ((have key : csG n p = false := by unfold csG; grind [List.eq_nil_iff_length_eq_zero]); simp [csR, key, ints]; done)
  any_goals ((have key : csG n p = true := by unfold csG; grind [List.eq_nil_iff_length_eq_zero]); simp [csR, key]; done)
  all_goals (have := hp (by grind); first | omega | grind)

theorem impl_CornacchiaSteps (n p : Int) : AFun Try.prog 26 [] [I n, I p] (PS (csR n p).length (csG n p)) [] [FI (csR n p)] := by
  have hp := fun h => shp_ge (p := p) h
  refine afun_intro fn26 (by simp) rfl (by repeat' (first | exact trivial | (simp; done) | refine ⟨?_, ?_⟩)) ?_
  unfold ac26
  repeat' (first | ((with_reducible refine (?_ : (_ : Bool) = _)); (with_reducible rfl)) | ((with_reducible refine (?_ : (_ : Nat × Nat) = _)); (with_reducible rfl)) | (with_reducible refine leafRI ?_) | (with_reducible refine leafRB ?_) | (with_reducible refine leafI ?_) | (with_reducible refine leafB ?_) | ((with_reducible refine (?_ : (_ : Int) ≠ 0)); (first | assumption | omega | (simp only [ints_len] at *; omega) | (simp; omega))) | ((with_reducible refine (?_ : (_ : Int) ≤ _)); (first | assumption | omega | (simp only [ints_len] at *; omega) | (simp; omega))) | ((with_reducible refine (?_ : (_ : Int) < _)); (first | assumption | omega | (simp only [ints_len] at *; omega) | (simp; omega))) | ((with_reducible refine (?_ : (_ : Nat) ≤ _)); (first | omega | (simp only [List.length_cons, List.length_nil]; omega) | (simp; omega))) | ((with_reducible refine (?_ : (_ : Nat) = _)); (first | (with_reducible rfl) | (simp; done) | (simp only [fr_len]) | (simp only [ints_len]) | omega | (simp [*]; done))) | (refine And.intro ?_ ?_) | (intro h; first | (exact Bool.noConfusion h) | ((simp only [decide_eq_true_eq, decide_eq_false_iff_not, beq_iff_eq, bne_iff_ne, ne_eq, beq_eq_false_iff_ne, bne_eq_false_iff_eq, Bool.not_eq_true', Bool.not_eq_false', Bool.not_eq_true, Bool.not_eq_false, Int.not_le, Int.not_lt, Bool.and_eq_true, Bool.or_eq_true, Bool.or_eq_false_iff, Bool.and_eq_false_iff] at h); (try (first | (exact Bool.noConfusion h) | (exact (h trivial).elim)))) | skip) | ((refine (?_ : ACall _ _ _ _ _ _ _)); first | ((apply acall (impl_isFactor _)); (focus (repeat' (first | exact rfl | (refine And.intro ?_ ?_) | (simp only [ints_len]; done) | (simp; done) | omega)))) | ((apply acall (impl_isShownPrime _)); (focus (repeat' (first | exact rfl | (refine And.intro ?_ ?_) | (simp only [ints_len]; done) | (simp; done) | omega))))) | ((with_reducible refine (?_ : chk _ _ = true)); kernel_rfl) | exact trivial)
  any_goals ((have key : csG n p = false := by unfold csG; grind [List.eq_nil_iff_length_eq_zero]); simp [csR, key, ints]; done)
  · have := hp (by assumption); omega
  rename_i hn hs h2
  have h34 := hp hs
  obtain ⟨h3, h4⟩ := h34
  have hG : csG n p = !decide (csL n p = []) := by unfold csG; grind
  have w0 : wrap64 (p.tdiv 2) = p / 2 := by rw [tdiv_nonneg' (by omega)]; exact wrap_small (by omega) (by omega)
  repeat' (first | ((with_reducible refine (?_ : (_ : Bool) = _)); (with_reducible rfl)) | ((with_reducible refine (?_ : (_ : Nat × Nat) = _)); (with_reducible rfl)) | (with_reducible refine leafRI ?_) | (with_reducible refine leafRB ?_) | (with_reducible refine leafI ?_) | (with_reducible refine leafB ?_) | ((with_reducible refine (?_ : (_ : Int) ≠ 0)); (first | assumption | omega | (simp only [ints_len] at *; omega) | (simp; omega))) | ((with_reducible refine (?_ : (_ : Int) ≤ _)); (first | assumption | omega | (simp only [ints_len] at *; omega) | (simp; omega))) | ((with_reducible refine (?_ : (_ : Int) < _)); (first | assumption | omega | (simp only [ints_len] at *; omega) | (simp; omega))) | ((with_reducible refine (?_ : (_ : Nat) ≤ _)); (first | omega | (simp only [List.length_cons, List.length_nil]; omega) | (simp; omega))) | ((with_reducible refine (?_ : (_ : Nat) = _)); (first | (with_reducible rfl) | (simp; done) | (simp only [fr_len]) | (simp only [ints_len]) | omega | (simp [*]; done))) | (refine And.intro ?_ ?_) | (intro h; first | (exact Bool.noConfusion h) | ((simp only [decide_eq_true_eq, decide_eq_false_iff_not, beq_iff_eq, bne_iff_ne, ne_eq, beq_eq_false_iff_ne, bne_eq_false_iff_eq, Bool.not_eq_true', Bool.not_eq_false', Bool.not_eq_true, Bool.not_eq_false, Int.not_le, Int.not_lt, Bool.and_eq_true, Bool.or_eq_true, Bool.or_eq_false_iff, Bool.and_eq_false_iff] at h); (try (first | (exact Bool.noConfusion h) | (exact (h trivial).elim)))) | skip) | ((with_reducible refine (?_ : chk _ _ = true)); kernel_rfl) | exact trivial)
  refine loop_rule (σ := Int) (fun s => [(6, I s)]) (fun s => [((4, 0), .fl 3 1 [])]) (fun s => p / 2 + 1 ≤ s ∧ s ≤ p ∧ csL n p = csO p (find (csF n p) (p - s).toNat s)) (fun s => (p - s).toNat) (wrap64 (wrap64 (p.tdiv 2) + 1)) ?_ (by repeat' (first | exact trivial | exact rfl | (refine And.intro ?_ ?_))) (by repeat' (first | exact trivial | exact rfl | (refine And.intro ?_ ?_))) (fun s => ⟨rfl, rfl⟩) (fun s i h => by first | exact absurd h (Nat.not_lt_zero i) | (cases i with | zero => rfl | succ i => exact absurd (Nat.lt_of_succ_lt_succ h) (Nat.not_lt_zero i))) ?_
  · rw [w0, wrap_small (by omega) (by omega)]
    exact ⟨by omega, by omega, rfl⟩
  · rintro r ⟨g1, g2, g3⟩
    have r2 := mul_bd (a := r) (b := r) (A := 10000) (B := 10000) (by omega) (by omega) (by omega) (by omega)
    have w1 : wrap64 (r * r) = r * r := wrap_small (by omega) (by omega)
    have w2 : wrap64 (r * r + n) = r * r + n := wrap_small (by omega) (by omega)
    have w3 : wrap64 (r + 1) = r + 1 := wrap_small (by omega) (by omega)
    repeat' (first | ((with_reducible refine (?_ : (_ : Bool) = _)); (with_reducible rfl)) | ((with_reducible refine (?_ : (_ : Nat × Nat) = _)); (with_reducible rfl)) | (with_reducible refine leafRI ?_) | (with_reducible refine leafRB ?_) | (with_reducible refine leafI ?_) | (with_reducible refine leafB ?_) | ((with_reducible refine (?_ : (_ : Int) ≠ 0)); (first | assumption | omega | (simp only [ints_len] at *; omega) | (simp; omega))) | ((with_reducible refine (?_ : (_ : Int) ≤ _)); (first | assumption | omega | (simp only [ints_len] at *; omega) | (simp; omega))) | ((with_reducible refine (?_ : (_ : Int) < _)); (first | assumption | omega | (simp only [ints_len] at *; omega) | (simp; omega))) | ((with_reducible refine (?_ : (_ : Nat) ≤ _)); (first | omega | (simp only [List.length_cons, List.length_nil]; omega) | (simp; omega))) | ((with_reducible refine (?_ : (_ : Nat) = _)); (first | (with_reducible rfl) | (simp; done) | (simp only [fr_len]) | (simp only [ints_len]) | omega | (simp [*]; done))) | (refine And.intro ?_ ?_) | (intro h; first | (exact Bool.noConfusion h) | ((simp only [decide_eq_true_eq, decide_eq_false_iff_not, beq_iff_eq, bne_iff_ne, ne_eq, beq_eq_false_iff_ne, bne_eq_false_iff_eq, Bool.not_eq_true', Bool.not_eq_false', Bool.not_eq_true, Bool.not_eq_false, Int.not_le, Int.not_lt, Bool.and_eq_true, Bool.or_eq_true, Bool.or_eq_false_iff, Bool.and_eq_false_iff] at h); (try (first | (exact Bool.noConfusion h) | (exact (h trivial).elim)))) | skip) | ((with_reducible refine (?_ : chk _ _ = true)); kernel_rfl) | exact trivial)
    · refine ⟨_, ?_, ?_, none, And.intro rfl (And.intro (by repeat' (first | exact trivial | exact rfl | (refine And.intro ?_ ?_))) (by repeat' (first | exact trivial | exact rfl | (refine And.intro ?_ ?_))))⟩
      · rw [w3]
        rw [w1, w2] at h
        refine ⟨by omega, by omega, ?_⟩
        rw [g3, find_next (by omega) (by simpa [csF] using h)]
      · rw [w3]; omega
    · rw [w1, w2] at h
      rename_i hr
      have hL : csL n p = [p, r] ++ euL p p r := by rw [g3, find_hit hr (by simpa [csF] using h)]; rfl
      have hG' : csG n p = true := by rw [hG, hL]; rfl
      refine loop_rule (σ := Nat × List (List Value) × Int × Int) (fun s => [(7, .c (.slc (46, 0) s.1)), (8, I s.2.2.1), (9, I s.2.2.2)]) (fun s => [((4, 0), .fl 3 1 []), ((46, 0), .fl 3 1 s.2.1)]) (fun s => s.1 = s.2.1.length ∧ 0 ≤ s.2.2.1 ∧ 0 ≤ s.2.2.2 ∧ s.2.2.2 ≤ 10000 ∧ s.1 + s.2.2.2.toNat ≤ 20000 ∧ s.2.1 ++ ints (s.2.2.2 :: euL p s.2.2.1 s.2.2.2) = ints (csL n p)) (fun s => s.2.2.2.toNat) ((1, ints [p], p, r)) ?_ (by repeat' (first | exact trivial | exact rfl | (refine And.intro ?_ ?_))) (by repeat' (first | exact trivial | exact rfl | (refine And.intro ?_ ?_))) (fun s => ⟨rfl, rfl⟩) (fun s i h => by first | exact absurd h (Nat.not_lt_zero i) | (cases i with | zero => rfl | succ i => exact absurd (Nat.lt_of_succ_lt_succ h) (Nat.not_lt_zero i))) ?_
      · exact ⟨rfl, by dsimp only; omega, by dsimp only; omega, by dsimp only; omega, by dsimp only; omega, by dsimp only; rw [hL, ← ints_app]; rfl⟩
      · rintro ⟨c, R, a, b⟩ ⟨k0, k1, k2, k3, k4, k5⟩
        dsimp only at k0 k1 k2 k3 k4 k5 ⊢
        have b2 := mul_bd (a := b) (b := b) (A := 10000) (B := 10000) (by omega) (by omega) (by omega) (by omega)
        have w4 : wrap64 (b * b) = b * b := wrap_small (by omega) (by omega)
        have b0 : p < b * b → 0 < b := fun h => by
          rcases Int.lt_or_le 0 b with h' | h'
          · exact h'
          · rw [show b = 0 by omega] at h; omega
        have fin : b * b ≤ p → ints (csR n p) = R ++ [[.int .i64 b]] := fun h => by
          rw [csR, hG', if_pos rfl, ← k5, euL_stop h]; rfl
        repeat' (first | ((with_reducible refine (?_ : (_ : Bool) = _)); (with_reducible rfl)) | ((with_reducible refine (?_ : (_ : Nat × Nat) = _)); (with_reducible rfl)) | (with_reducible refine leafRI ?_) | (with_reducible refine leafRB ?_) | (with_reducible refine leafI ?_) | (with_reducible refine leafB ?_) | ((with_reducible refine (?_ : (_ : Int) ≠ 0)); (first | assumption | omega | (simp only [ints_len] at *; omega) | (simp; omega))) | ((with_reducible refine (?_ : (_ : Int) ≤ _)); (first | assumption | omega | (simp only [ints_len] at *; omega) | (simp; omega))) | ((with_reducible refine (?_ : (_ : Int) < _)); (first | assumption | omega | (simp only [ints_len] at *; omega) | (simp; omega))) | ((with_reducible refine (?_ : (_ : Nat) ≤ _)); (first | omega | (simp only [List.length_cons, List.length_nil]; omega) | (simp; omega))) | ((with_reducible refine (?_ : (_ : Nat) = _)); (first | (with_reducible rfl) | (simp; done) | (simp only [fr_len]) | (simp only [ints_len]) | omega | (simp [*]; done))) | (refine And.intro ?_ ?_) | (intro h; first | (exact Bool.noConfusion h) | ((simp only [decide_eq_true_eq, decide_eq_false_iff_not, beq_iff_eq, bne_iff_ne, ne_eq, beq_eq_false_iff_ne, bne_eq_false_iff_eq, Bool.not_eq_true', Bool.not_eq_false', Bool.not_eq_true, Bool.not_eq_false, Int.not_le, Int.not_lt, Bool.and_eq_true, Bool.or_eq_true, Bool.or_eq_false_iff, Bool.and_eq_false_iff] at h); (try (first | (exact Bool.noConfusion h) | (exact (h trivial).elim)))) | skip) | ((with_reducible refine (?_ : chk _ _ = true)); kernel_rfl) | exact trivial)
        · rw [w4] at h
          rw [← ints_len (csR n p), fin h]; simp
        · exact hG'.symm
        · rw [w4] at h
          exact (fin h).symm
        · rw [w4] at h
          have hb := b0 h
          have e1 := tmod_nonneg' (m := b) k1
          have e2 := Int.emod_nonneg a (show b ≠ 0 by omega)
          have e3 := Int.emod_lt_of_pos a hb
          repeat' (first | ((with_reducible refine (?_ : (_ : Bool) = _)); (with_reducible rfl)) | ((with_reducible refine (?_ : (_ : Nat × Nat) = _)); (with_reducible rfl)) | (with_reducible refine leafRI ?_) | (with_reducible refine leafRB ?_) | (with_reducible refine leafI ?_) | (with_reducible refine leafB ?_) | ((with_reducible refine (?_ : (_ : Int) ≠ 0)); (first | assumption | omega | (simp only [ints_len] at *; omega) | (simp; omega))) | ((with_reducible refine (?_ : (_ : Int) ≤ _)); (first | assumption | omega | (simp only [ints_len] at *; omega) | (simp; omega))) | ((with_reducible refine (?_ : (_ : Int) < _)); (first | assumption | omega | (simp only [ints_len] at *; omega) | (simp; omega))) | ((with_reducible refine (?_ : (_ : Nat) ≤ _)); (first | omega | (simp only [List.length_cons, List.length_nil]; omega) | (simp; omega))) | ((with_reducible refine (?_ : (_ : Nat) = _)); (first | (with_reducible rfl) | (simp; done) | (simp only [fr_len]) | (simp only [ints_len]) | omega | (simp [*]; done))) | (refine And.intro ?_ ?_) | (intro h; first | (exact Bool.noConfusion h) | ((simp only [decide_eq_true_eq, decide_eq_false_iff_not, beq_iff_eq, bne_iff_ne, ne_eq, beq_eq_false_iff_ne, bne_eq_false_iff_eq, Bool.not_eq_true', Bool.not_eq_false', Bool.not_eq_true, Bool.not_eq_false, Int.not_le, Int.not_lt, Bool.and_eq_true, Bool.or_eq_true, Bool.or_eq_false_iff, Bool.and_eq_false_iff] at h); (try (first | (exact Bool.noConfusion h) | (exact (h trivial).elim)))) | skip) | ((with_reducible refine (?_ : chk _ _ = true)); kernel_rfl) | exact trivial)
          refine ⟨(_, _, b, a.tmod b), ?_, ?_, none, And.intro rfl (And.intro (by repeat' (first | exact trivial | exact rfl | (refine And.intro ?_ ?_))) (by repeat' (first | exact trivial | exact rfl | (refine And.intro ?_ ?_))))⟩
          · dsimp only
            refine ⟨by simp, by omega, by omega, by omega, by simp only [List.length_cons, List.length_nil]; omega, ?_⟩
            rw [← k5, euL_step h hb, List.append_assoc]; rfl
          · dsimp only; omega
    all_goals (have hL : csL n p = [] := by rw [g3, find_none (by omega)]; rfl)
    all_goals simp [csR, hG, hL, ints]

theorem claw_CornacchiaSteps (n p : Int) : AFun Try.prog 6 [] [I n, I p] (Bo true) [] [] := by
  have hl : (csR n p).length ≤ 20000 := by
    unfold csR
    split
    · rename_i h
      have := csL_bd (n := n) (p := p) (by unfold csG at h; have := shp_ge (p := p); grind)
      omega
    · simp
  refine afun_intro fn6 (by simp) rfl (by repeat' (first | exact trivial | (simp; done) | refine ⟨?_, ?_⟩)) ?_
  unfold ac6
  repeat' (first | ((with_reducible refine (?_ : (_ : Bool) = _)); (with_reducible rfl)) | ((with_reducible refine (?_ : (_ : Nat × Nat) = _)); (with_reducible rfl)) | (with_reducible refine leafRI ?_) | (with_reducible refine leafRB ?_) | (with_reducible refine leafI ?_) | (with_reducible refine leafB ?_) | ((with_reducible refine (?_ : (_ : Int) ≠ 0)); (first | assumption | omega | (simp only [ints_len] at *; omega) | (simp; omega))) | ((with_reducible refine (?_ : (_ : Int) ≤ _)); (first | assumption | omega | (simp only [ints_len] at *; omega) | (simp; omega))) | ((with_reducible refine (?_ : (_ : Int) < _)); (first | assumption | omega | (simp only [ints_len] at *; omega) | (simp; omega))) | ((with_reducible refine (?_ : (_ : Nat) ≤ _)); (first | omega | (simp only [List.length_cons, List.length_nil]; omega) | (simp; omega))) | ((with_reducible refine (?_ : (_ : Nat) = _)); (first | (with_reducible rfl) | (simp; done) | (simp only [fr_len]) | (simp only [ints_len]) | omega | (simp [*]; done))) | (refine And.intro ?_ ?_) | (intro h; first | (exact Bool.noConfusion h) | ((simp only [decide_eq_true_eq, decide_eq_false_iff_not, beq_iff_eq, bne_iff_ne, ne_eq, beq_eq_false_iff_ne, bne_eq_false_iff_eq, Bool.not_eq_true', Bool.not_eq_false', Bool.not_eq_true, Bool.not_eq_false, Int.not_le, Int.not_lt, Bool.and_eq_true, Bool.or_eq_true, Bool.or_eq_false_iff, Bool.and_eq_false_iff] at h); (try (first | (exact Bool.noConfusion h) | (exact (h trivial).elim)))) | skip) | ((refine (?_ : ACall _ _ _ _ _ _ _)); first | ((apply acall (spec_CornacchiaSteps _ _)); (focus (repeat' (first | exact rfl | (refine And.intro ?_ ?_) | (simp only [ints_len]; done) | (simp; done) | omega)))) | ((apply acall (impl_CornacchiaSteps _ _)); (focus (repeat' (first | exact rfl | (refine And.intro ?_ ?_) | (simp only [ints_len]; done) | (simp; done) | omega)))) | ((apply acall (laws_eqIntS _ _ ?_ ?_)); (focus (repeat' (first | exact rfl | (refine And.intro ?_ ?_) | (simp only [ints_len]; done) | (simp; done) | omega)))) | ((apply alent (laws_markIntS _ _ ?_ ?_ ?_)); (focus (exact rfl)); (focus (repeat' (first | exact rfl | (refine And.intro ?_ ?_) | (simp only [ints_len]; done) | (simp; done) | omega))); (focus (exact rfl))) | ((apply acall (laws_heldIntS _ _ ?_ ?_ ?_)); (focus (repeat' (first | exact rfl | (refine And.intro ?_ ?_) | (simp only [ints_len]; done) | (simp; done) | omega))))) | ((with_reducible refine (?_ : chk _ _ = true)); kernel_rfl) | exact trivial)
  all_goals simp_all

theorem law_CornacchiaSteps (n p : Int) (w : World) : Calls Try.prog 6 #[.int .i64 n, .int .i64 p] w fun e w' => e = .returned (.bool (true)) ∧ Below w.heap.size w w' := by
  exact law_of_afun (claw_CornacchiaSteps n p) rfl w

end Go.Proofs.Ytnpmkomnafdgnaa
