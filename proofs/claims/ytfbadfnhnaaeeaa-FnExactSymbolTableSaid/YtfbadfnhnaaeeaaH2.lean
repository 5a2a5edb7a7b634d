/- Hilbert's symbol. -/
import Derived.Test.YtfbadfnhnaaeeaaH1
namespace Go.Proofs.Ytfbadfnhnaaeeaa
open Go.RowKit
set_option linter.unusedSimpArgs false
set_option linter.unusedVariables false
set_option maxRecDepth 100000

/-! how often p divides a, and the rest -/
theorem tdiv_less {a p : Int} (h1 : 2 ≤ p) (h2 : a ≠ 0) (h3 : a.tmod p = 0) : (a.tdiv p).natAbs < a.natAbs := by
  rw [Int.natAbs_tdiv]
  exact Nat.div_lt_self (by omega) (by omega)
def expo (p a : Int) : Int := if h : 2 ≤ p ∧ a ≠ 0 ∧ a.tmod p = 0 then expo p (a.tdiv p) + 1 else 0
termination_by a.natAbs
decreasing_by exact tdiv_less h.1 h.2.1 h.2.2
def rest (p a : Int) : Int := if h : 2 ≤ p ∧ a ≠ 0 ∧ a.tmod p = 0 then rest p (a.tdiv p) else a
termination_by a.natAbs
decreasing_by exact tdiv_less h.1 h.2.1 h.2.2
theorem expo_yes {p a : Int} (h : 2 ≤ p ∧ a ≠ 0 ∧ a.tmod p = 0) : expo p a = expo p (a.tdiv p) + 1 ∧ rest p a = rest p (a.tdiv p) := by
  constructor
  · rw [expo, dif_pos h]
  · rw [rest, dif_pos h]
theorem expo_no {p a : Int} (h : a.tmod p ≠ 0) : expo p a = 0 ∧ rest p a = a := by
  constructor
  · rw [expo, dif_neg (fun c => h c.2.2)]
  · rw [rest, dif_neg (fun c => h c.2.2)]
theorem tdiv_ne {a p : Int} (h2 : a ≠ 0) (h3 : a.tmod p = 0) : a.tdiv p ≠ 0 := by
  intro h
  have := Int.mul_tdiv_add_tmod a p
  rw [h, h3] at this
  omega
theorem tdiv_half {a p : Int} (h1 : 2 ≤ p) (h3 : a.tmod p = 0) : 2 * (a.tdiv p).natAbs ≤ a.natAbs := by
  have := Int.mul_tdiv_add_tmod a p
  rw [h3, Int.add_zero] at this
  have e : a.natAbs = p.natAbs * (a.tdiv p).natAbs := by rw [← Int.natAbs_mul, this]
  rw [e]
  exact Nat.mul_le_mul_right _ (by omega)
theorem expo_bd {p : Int} (h1 : 2 ≤ p) (k : Nat) : ∀ a : Int, a ≠ 0 → a.natAbs ≤ k → 0 ≤ expo p a ∧ 2 ^ (expo p a).toNat ≤ a.natAbs ∧ rest p a ≠ 0 ∧ (rest p a).natAbs ≤ a.natAbs ∧ (rest p a).tmod p ≠ 0 := by
  induction k with
  | zero => intro a h h'; omega
  | succ k ih =>
    intro a h0 hk
    by_cases hm : a.tmod p = 0
    · obtain ⟨e1, e2⟩ := expo_yes ⟨h1, h0, hm⟩
      have hl := tdiv_less h1 h0 hm
      have hh := tdiv_half h1 hm
      obtain ⟨i1, i2, i3, i4, i5⟩ := ih (a.tdiv p) (tdiv_ne h0 hm) (by omega)
      rw [e1, e2, show (expo p (a.tdiv p) + 1).toNat = (expo p (a.tdiv p)).toNat + 1 by omega, Nat.pow_succ]
      exact ⟨by omega, by omega, i3, by omega, i5⟩
    · obtain ⟨e1, e2⟩ := expo_no hm
      rw [e1, e2]
      exact ⟨by omega, by simp; omega, h0, Nat.le_refl _, hm⟩
theorem expo_le {p a : Int} (h1 : 2 ≤ p) (h0 : a ≠ 0) (h2 : a.natAbs ≤ 2000000000000000) : 0 ≤ expo p a ∧ expo p a ≤ 50 ∧ rest p a ≠ 0 ∧ (rest p a).natAbs ≤ a.natAbs ∧ (rest p a).tmod p ≠ 0 := by
  obtain ⟨i1, i2, i3, i4, i5⟩ := expo_bd h1 _ a h0 (Nat.le_refl _)
  refine ⟨i1, ?_, i3, i4, i5⟩
  have : (expo p a).toNat < 51 := by
    apply (Nat.pow_lt_pow_iff_right (a := 2) (by omega)).1
    have : (2 : Nat) ^ 51 = 2251799813685248 := by decide
    omega
  omega
theorem expo_zero {p a : Int} (h1 : 2 ≤ p) (h0 : a ≠ 0) (h : expo p a = 0) : rest p a = a := by
  by_cases hm : a.tmod p = 0
  · obtain ⟨e1, e2⟩ := expo_yes ⟨h1, h0, hm⟩
    have := (expo_bd h1 _ (a.tdiv p) (tdiv_ne h0 hm) (Nat.le_refl _)).1
    omega
  · exact (expo_no hm).2
theorem expo_pos {p a : Int} (h1 : 2 ≤ p) (h : 0 < expo p a) : a.tmod p = 0 := by
  by_cases hm : a.tmod p = 0
  · exact hm
  · have := (expo_no (p := p) hm).1; omega

abbrev PII (m n : Int) : V := .tup [(false, [cI m]), (false, [cI n])]

theorem spec_hiSplit (a p : Int) (h1 : 2 ≤ p) (h0 : a ≠ 0) (h2 : a.natAbs ≤ 2000000000000000) : AFun Try.prog 21 [] [I a, I p] (PII (expo p a) (rest p a)) [] [] := by
  have hb := expo_le h1 h0 h2
  refine afun_intro fn21 rfl rfl (by repeat' (first | exact trivial | (simp; done) | (simp [*]; done) | refine ⟨?_, ?_⟩)) ?_
  unfold ac21
  repeat' (first | ((with_reducible refine (?_ : (_ : Bool) = _)); (with_reducible rfl)) | ((with_reducible refine (?_ : (_ : Nat × Nat) = _)); (with_reducible rfl)) | (with_reducible refine leafRI ?_) | (with_reducible refine leafRB ?_) | (with_reducible refine leafI ?_) | (with_reducible refine leafB ?_) | ((with_reducible refine (?_ : (_ : Int) = _)); (with_reducible rfl)) | ((with_reducible refine (?_ : (_ : List (List Value)) = _)); (with_reducible rfl)) | ((with_reducible refine (?_ : (_ : Int) ≠ 0)); (first | assumption | omega | (simp; done) | (simp only [ints_len] at *; omega) | (simp; omega))) | ((with_reducible refine (?_ : (_ : Int) ≤ _)); (first | assumption | omega | (simp; done) | (simp only [ints_len] at *; omega) | (simp; omega))) | ((with_reducible refine (?_ : (_ : Int) < _)); (first | assumption | omega | (simp; done) | (simp only [ints_len] at *; omega) | (simp; omega))) | ((with_reducible refine (?_ : (_ : Nat) ≤ _)); (first | omega | (simp only [List.length_cons, List.length_nil]; omega) | (simp [ints]; done) | (simp; omega))) | ((with_reducible refine (?_ : (_ : Nat) < _)); (first | omega | (simp only [List.length_cons, List.length_nil]; omega) | (simp [ints]; done) | (simp; omega))) | ((with_reducible refine (?_ : (_ : Nat) = _)); (first | (with_reducible rfl) | (simp; done) | (simp only [fr_len]) | (simp only [ints_len]) | omega | (simp [*]; done))) | (refine And.intro ?_ ?_) | (intro h; first | (exact Bool.noConfusion h) | ((simp only [decide_eq_true_eq, decide_eq_false_iff_not, beq_iff_eq, bne_iff_ne, ne_eq, beq_eq_false_iff_ne, bne_eq_false_iff_eq, Bool.not_eq_true', Bool.not_eq_false', Bool.not_eq_true, Bool.not_eq_false, Int.not_le, Int.not_lt, Bool.and_eq_true, Bool.or_eq_true, Bool.or_eq_false_iff, Bool.and_eq_false_iff] at h); (try (first | (exact Bool.noConfusion h) | (exact (h trivial).elim)))) | skip) | ((with_reducible refine (?_ : chk _ _ = true)); kernel_rfl) | ((with_reducible refine (?_ : (_ : IntKind) = _)); (with_reducible rfl)) | ((with_reducible refine (?_ : eqC (C.pvw _ _ _) (C.pvw _ _ _))); exact rfl) | ((with_reducible refine (?_ : eqC (C.pv (Value.int IntKind.u64 _)) _)); exact rfl) | ((with_reducible refine (?_ : eqC (C.pv (Value.string _)) _)); exact rfl) | exact trivial)
  refine loop_rule (σ := Int × Int) (fun s => [(0, I s.1), (6, I s.2)]) (fun _ => []) (fun s => s.1 ≠ 0 ∧ s.1.natAbs ≤ 2000000000000000 ∧ 0 ≤ s.2 ∧ s.2 + expo p s.1 = expo p a ∧ rest p s.1 = rest p a) (fun s => s.1.natAbs) ((a, 0)) ?_ (by repeat' (first | exact trivial | exact rfl | (refine And.intro ?_ ?_))) trivial (fun s => ⟨rfl, rfl⟩) (fun s i h => by first | exact absurd h (Nat.not_lt_zero i) | (cases i with | zero => rfl | succ i => exact absurd (Nat.lt_of_succ_lt_succ h) (Nat.not_lt_zero i)) | (rcases i with _ | _ | _ | _ | _ | _ | _ | _ | _ | i <;> first | rfl | (exfalso; simp at h; done) | (exfalso; simp only [List.length_cons, List.length_nil] at h; omega))) ?_
  · exact ⟨h0, h2, by dsimp only; omega, by dsimp only; omega, rfl⟩
  · rintro ⟨x, k⟩ ⟨g1, g2, g3, g4, g5⟩
    dsimp only at g1 g2 g3 g4 g5 ⊢
    have hx := expo_le h1 g1 g2
    have w1 : wrap64 (k + 1) = k + 1 := wrap_small (by omega) (by omega)
    repeat' (first | ((with_reducible refine (?_ : (_ : Bool) = _)); (with_reducible rfl)) | ((with_reducible refine (?_ : (_ : Nat × Nat) = _)); (with_reducible rfl)) | (with_reducible refine leafRI ?_) | (with_reducible refine leafRB ?_) | (with_reducible refine leafI ?_) | (with_reducible refine leafB ?_) | ((with_reducible refine (?_ : (_ : Int) = _)); (with_reducible rfl)) | ((with_reducible refine (?_ : (_ : List (List Value)) = _)); (with_reducible rfl)) | ((with_reducible refine (?_ : (_ : Int) ≠ 0)); (first | assumption | omega | (simp; done) | (simp only [ints_len] at *; omega) | (simp; omega))) | ((with_reducible refine (?_ : (_ : Int) ≤ _)); (first | assumption | omega | (simp; done) | (simp only [ints_len] at *; omega) | (simp; omega))) | ((with_reducible refine (?_ : (_ : Int) < _)); (first | assumption | omega | (simp; done) | (simp only [ints_len] at *; omega) | (simp; omega))) | ((with_reducible refine (?_ : (_ : Nat) ≤ _)); (first | omega | (simp only [List.length_cons, List.length_nil]; omega) | (simp [ints]; done) | (simp; omega))) | ((with_reducible refine (?_ : (_ : Nat) < _)); (first | omega | (simp only [List.length_cons, List.length_nil]; omega) | (simp [ints]; done) | (simp; omega))) | ((with_reducible refine (?_ : (_ : Nat) = _)); (first | (with_reducible rfl) | (simp; done) | (simp only [fr_len]) | (simp only [ints_len]) | omega | (simp [*]; done))) | (refine And.intro ?_ ?_) | (intro h; first | (exact Bool.noConfusion h) | ((simp only [decide_eq_true_eq, decide_eq_false_iff_not, beq_iff_eq, bne_iff_ne, ne_eq, beq_eq_false_iff_ne, bne_eq_false_iff_eq, Bool.not_eq_true', Bool.not_eq_false', Bool.not_eq_true, Bool.not_eq_false, Int.not_le, Int.not_lt, Bool.and_eq_true, Bool.or_eq_true, Bool.or_eq_false_iff, Bool.and_eq_false_iff] at h); (try (first | (exact Bool.noConfusion h) | (exact (h trivial).elim)))) | skip) | ((with_reducible refine (?_ : chk _ _ = true)); kernel_rfl) | ((with_reducible refine (?_ : (_ : IntKind) = _)); (with_reducible rfl)) | ((with_reducible refine (?_ : eqC (C.pvw _ _ _) (C.pvw _ _ _))); exact rfl) | ((with_reducible refine (?_ : eqC (C.pv (Value.int IntKind.u64 _)) _)); exact rfl) | ((with_reducible refine (?_ : eqC (C.pv (Value.string _)) _)); exact rfl) | exact trivial)
    · have hl := tdiv_less h1 g1 h
      obtain ⟨e1, e2⟩ := expo_yes ⟨h1, g1, h⟩
      have wd : wrap64 (x.tdiv p) = x.tdiv p := wrap_small (by omega) (by omega)
      refine ⟨(wrap64 (x.tdiv p), wrap64 (k + 1)), ?_, ?_, none, And.intro rfl (And.intro (by repeat' (first | exact trivial | exact rfl | (refine And.intro ?_ ?_))) (by repeat' (first | exact trivial | exact rfl | (refine And.intro ?_ ?_))))⟩
      · dsimp only
        rw [wd, w1]
        exact ⟨tdiv_ne g1 h, by omega, by omega, by omega, by rw [← e2]; exact g5⟩
      · dsimp only; rw [wd]; exact hl
    · obtain ⟨e1, e2⟩ := expo_no h
      omega
    · obtain ⟨e1, e2⟩ := expo_no h
      omega

theorem impl_exponent (a p : Int) (h1 : 2 ≤ p) (h0 : a ≠ 0) (h2 : a.natAbs ≤ 2000000000000000) : AFun Try.prog 27 [] [I a, I p] (I (expo p a)) [] [] := by
  have hb := expo_le h1 h0 h2
  refine afun_intro fn27 rfl rfl (by repeat' (first | exact trivial | (simp; done) | (simp [*]; done) | refine ⟨?_, ?_⟩)) ?_
  unfold ac27
  repeat' (first | ((with_reducible refine (?_ : (_ : Bool) = _)); (with_reducible rfl)) | ((with_reducible refine (?_ : (_ : Nat × Nat) = _)); (with_reducible rfl)) | (with_reducible refine leafRI ?_) | (with_reducible refine leafRB ?_) | (with_reducible refine leafI ?_) | (with_reducible refine leafB ?_) | ((with_reducible refine (?_ : (_ : Int) = _)); (with_reducible rfl)) | ((with_reducible refine (?_ : (_ : List (List Value)) = _)); (with_reducible rfl)) | ((with_reducible refine (?_ : (_ : Int) ≠ 0)); (first | assumption | omega | (simp; done) | (simp only [ints_len] at *; omega) | (simp; omega))) | ((with_reducible refine (?_ : (_ : Int) ≤ _)); (first | assumption | omega | (simp; done) | (simp only [ints_len] at *; omega) | (simp; omega))) | ((with_reducible refine (?_ : (_ : Int) < _)); (first | assumption | omega | (simp; done) | (simp only [ints_len] at *; omega) | (simp; omega))) | ((with_reducible refine (?_ : (_ : Nat) ≤ _)); (first | omega | (simp only [List.length_cons, List.length_nil]; omega) | (simp [ints]; done) | (simp; omega))) | ((with_reducible refine (?_ : (_ : Nat) < _)); (first | omega | (simp only [List.length_cons, List.length_nil]; omega) | (simp [ints]; done) | (simp; omega))) | ((with_reducible refine (?_ : (_ : Nat) = _)); (first | (with_reducible rfl) | (simp; done) | (simp only [fr_len]) | (simp only [ints_len]) | omega | (simp [*]; done))) | (refine And.intro ?_ ?_) | (intro h; first | (exact Bool.noConfusion h) | ((simp only [decide_eq_true_eq, decide_eq_false_iff_not, beq_iff_eq, bne_iff_ne, ne_eq, beq_eq_false_iff_ne, bne_eq_false_iff_eq, Bool.not_eq_true', Bool.not_eq_false', Bool.not_eq_true, Bool.not_eq_false, Int.not_le, Int.not_lt, Bool.and_eq_true, Bool.or_eq_true, Bool.or_eq_false_iff, Bool.and_eq_false_iff] at h); (try (first | (exact Bool.noConfusion h) | (exact (h trivial).elim)))) | skip) | ((with_reducible refine (?_ : chk _ _ = true)); kernel_rfl) | ((with_reducible refine (?_ : (_ : IntKind) = _)); (with_reducible rfl)) | ((with_reducible refine (?_ : eqC (C.pvw _ _ _) (C.pvw _ _ _))); exact rfl) | ((with_reducible refine (?_ : eqC (C.pv (Value.int IntKind.u64 _)) _)); exact rfl) | ((with_reducible refine (?_ : eqC (C.pv (Value.string _)) _)); exact rfl) | exact trivial)
  refine loop_rule (σ := Int × Int) (fun s => [(0, I s.1), (5, I s.2)]) (fun _ => []) (fun s => s.1 ≠ 0 ∧ s.1.natAbs ≤ 2000000000000000 ∧ 0 ≤ s.2 ∧ s.2 + expo p s.1 = expo p a) (fun s => s.1.natAbs) ((a, 0)) ?_ (by repeat' (first | exact trivial | exact rfl | (refine And.intro ?_ ?_))) trivial (fun s => ⟨rfl, rfl⟩) (fun s i h => by first | exact absurd h (Nat.not_lt_zero i) | (cases i with | zero => rfl | succ i => exact absurd (Nat.lt_of_succ_lt_succ h) (Nat.not_lt_zero i)) | (rcases i with _ | _ | _ | _ | _ | _ | _ | _ | _ | i <;> first | rfl | (exfalso; simp at h; done) | (exfalso; simp only [List.length_cons, List.length_nil] at h; omega))) ?_
  · exact ⟨h0, h2, by dsimp only; omega, by dsimp only; omega⟩
  · rintro ⟨x, k⟩ ⟨g1, g2, g3, g4⟩
    dsimp only at g1 g2 g3 g4 ⊢
    have hx := expo_le h1 g1 g2
    have w1 : wrap64 (k + 1) = k + 1 := wrap_small (by omega) (by omega)
    repeat' (first | ((with_reducible refine (?_ : (_ : Bool) = _)); (with_reducible rfl)) | ((with_reducible refine (?_ : (_ : Nat × Nat) = _)); (with_reducible rfl)) | (with_reducible refine leafRI ?_) | (with_reducible refine leafRB ?_) | (with_reducible refine leafI ?_) | (with_reducible refine leafB ?_) | ((with_reducible refine (?_ : (_ : Int) = _)); (with_reducible rfl)) | ((with_reducible refine (?_ : (_ : List (List Value)) = _)); (with_reducible rfl)) | ((with_reducible refine (?_ : (_ : Int) ≠ 0)); (first | assumption | omega | (simp; done) | (simp only [ints_len] at *; omega) | (simp; omega))) | ((with_reducible refine (?_ : (_ : Int) ≤ _)); (first | assumption | omega | (simp; done) | (simp only [ints_len] at *; omega) | (simp; omega))) | ((with_reducible refine (?_ : (_ : Int) < _)); (first | assumption | omega | (simp; done) | (simp only [ints_len] at *; omega) | (simp; omega))) | ((with_reducible refine (?_ : (_ : Nat) ≤ _)); (first | omega | (simp only [List.length_cons, List.length_nil]; omega) | (simp [ints]; done) | (simp; omega))) | ((with_reducible refine (?_ : (_ : Nat) < _)); (first | omega | (simp only [List.length_cons, List.length_nil]; omega) | (simp [ints]; done) | (simp; omega))) | ((with_reducible refine (?_ : (_ : Nat) = _)); (first | (with_reducible rfl) | (simp; done) | (simp only [fr_len]) | (simp only [ints_len]) | omega | (simp [*]; done))) | (refine And.intro ?_ ?_) | (intro h; first | (exact Bool.noConfusion h) | ((simp only [decide_eq_true_eq, decide_eq_false_iff_not, beq_iff_eq, bne_iff_ne, ne_eq, beq_eq_false_iff_ne, bne_eq_false_iff_eq, Bool.not_eq_true', Bool.not_eq_false', Bool.not_eq_true, Bool.not_eq_false, Int.not_le, Int.not_lt, Bool.and_eq_true, Bool.or_eq_true, Bool.or_eq_false_iff, Bool.and_eq_false_iff] at h); (try (first | (exact Bool.noConfusion h) | (exact (h trivial).elim)))) | skip) | ((with_reducible refine (?_ : chk _ _ = true)); kernel_rfl) | ((with_reducible refine (?_ : (_ : IntKind) = _)); (with_reducible rfl)) | ((with_reducible refine (?_ : eqC (C.pvw _ _ _) (C.pvw _ _ _))); exact rfl) | ((with_reducible refine (?_ : eqC (C.pv (Value.int IntKind.u64 _)) _)); exact rfl) | ((with_reducible refine (?_ : eqC (C.pv (Value.string _)) _)); exact rfl) | exact trivial)
    · have hl := tdiv_less h1 g1 h
      obtain ⟨e1, e2⟩ := expo_yes ⟨h1, g1, h⟩
      have wd : wrap64 (x.tdiv p) = x.tdiv p := wrap_small (by omega) (by omega)
      refine ⟨(wrap64 (x.tdiv p), wrap64 (k + 1)), ?_, ?_, none, And.intro rfl (And.intro (by repeat' (first | exact trivial | exact rfl | (refine And.intro ?_ ?_))) (by repeat' (first | exact trivial | exact rfl | (refine And.intro ?_ ?_))))⟩
      · dsimp only
        rw [wd, w1]
        exact ⟨tdiv_ne g1 h, by omega, by omega, by omega⟩
      · dsimp only; rw [wd]; exact hl
    · obtain ⟨e1, e2⟩ := expo_no h
      omega

/-! the symbol -/
def hO (u : Int) : Int := (u % 4 - 1) / 2
def hE (u : Int) : Int := if u % 8 = 3 ∨ u % 8 = 5 then 1 else 0
def hS (o : Int) : Int := 1 - 2 * (o % 2)
def hil (a b p : Int) : Int := if p = 0 then (if a < 0 ∧ b < 0 then -1 else 1) else
  if p = 2 then hS (hO (rest p a) * hO (rest p b) + expo p a * hE (rest p b) + expo p b * hE (rest p a)) else
  hS (expo p a * expo p b * (p - 1) / 2) * (if expo p a % 2 = 1 then J (rest p b) p else 1) * (if expo p b % 2 = 1 then J (rest p a) p else 1)
theorem hS_or (o : Int) : hS o = 1 ∨ hS o = -1 := by unfold hS; omega

theorem spec_hiOdd (u : Int) : AFun Try.prog 23 [] [I u] (I ((u % 4 - 1).tdiv 2)) [] [] := by
  have w1 : wrap64 (u % 4 - 1) = u % 4 - 1 := wrap_small (by omega) (by omega)
  have b1 : -1 ≤ (u % 4 - 1).tdiv 2 ∧ (u % 4 - 1).tdiv 2 ≤ 1 := by
    rcases (show u % 4 = 0 ∨ u % 4 = 1 ∨ u % 4 = 2 ∨ u % 4 = 3 by omega) with e | e | e | e <;> rw [e] <;> decide
  refine afun_intro fn23 rfl rfl (by repeat' (first | exact trivial | (simp; done) | (simp [*]; done) | refine ⟨?_, ?_⟩)) ?_
  unfold ac23
  repeat' (first | ((with_reducible refine (?_ : (_ : Bool) = _)); (with_reducible rfl)) | ((with_reducible refine (?_ : (_ : Nat × Nat) = _)); (with_reducible rfl)) | (with_reducible refine leafRI ?_) | (with_reducible refine leafRB ?_) | (with_reducible refine leafI ?_) | (with_reducible refine leafB ?_) | ((with_reducible refine (?_ : (_ : Int) = _)); (with_reducible rfl)) | ((with_reducible refine (?_ : (_ : List (List Value)) = _)); (with_reducible rfl)) | ((with_reducible refine (?_ : (_ : Int) ≠ 0)); (first | assumption | omega | (simp; done) | (simp only [ints_len] at *; omega) | (simp; omega))) | ((with_reducible refine (?_ : (_ : Int) ≤ _)); (first | assumption | omega | (simp; done) | (simp only [ints_len] at *; omega) | (simp; omega))) | ((with_reducible refine (?_ : (_ : Int) < _)); (first | assumption | omega | (simp; done) | (simp only [ints_len] at *; omega) | (simp; omega))) | ((with_reducible refine (?_ : (_ : Nat) ≤ _)); (first | omega | (simp only [List.length_cons, List.length_nil]; omega) | (simp [ints]; done) | (simp; omega))) | ((with_reducible refine (?_ : (_ : Nat) < _)); (first | omega | (simp only [List.length_cons, List.length_nil]; omega) | (simp [ints]; done) | (simp; omega))) | ((with_reducible refine (?_ : (_ : Nat) = _)); (first | (with_reducible rfl) | (simp; done) | (simp only [fr_len]) | (simp only [ints_len]) | omega | (simp [*]; done))) | (refine And.intro ?_ ?_) | (intro h; first | (exact Bool.noConfusion h) | ((simp only [decide_eq_true_eq, decide_eq_false_iff_not, beq_iff_eq, bne_iff_ne, ne_eq, beq_eq_false_iff_ne, bne_eq_false_iff_eq, Bool.not_eq_true', Bool.not_eq_false', Bool.not_eq_true, Bool.not_eq_false, Int.not_le, Int.not_lt, Bool.and_eq_true, Bool.or_eq_true, Bool.or_eq_false_iff, Bool.and_eq_false_iff] at h); (try (first | (exact Bool.noConfusion h) | (exact (h trivial).elim)))) | skip) | ((refine (?_ : ACall _ _ _ _ _ _ _)); first | ((apply acall (spec_nuMod _ _ ?_ ?_)); (focus (repeat' (first | exact rfl | (refine And.intro ?_ ?_) | (simp only [ints_len]; done) | (simp; done) | omega))))) | ((with_reducible refine (?_ : chk _ _ = true)); kernel_rfl) | ((with_reducible refine (?_ : (_ : IntKind) = _)); (with_reducible rfl)) | ((with_reducible refine (?_ : eqC (C.pvw _ _ _) (C.pvw _ _ _))); exact rfl) | ((with_reducible refine (?_ : eqC (C.pv (Value.int IntKind.u64 _)) _)); exact rfl) | ((with_reducible refine (?_ : eqC (C.pv (Value.string _)) _)); exact rfl) | exact trivial)
  rw [w1, wrap_small (by omega) (by omega)]

theorem spec_hiEight (u : Int) : AFun Try.prog 24 [] [I u] (I (hE u)) [] [] := by
  refine afun_intro fn24 rfl rfl (by repeat' (first | exact trivial | (simp; done) | (simp [*]; done) | refine ⟨?_, ?_⟩)) ?_
  unfold ac24
  repeat' (first | ((with_reducible refine (?_ : (_ : Bool) = _)); (with_reducible rfl)) | ((with_reducible refine (?_ : (_ : Nat × Nat) = _)); (with_reducible rfl)) | (with_reducible refine leafRI ?_) | (with_reducible refine leafRB ?_) | (with_reducible refine leafI ?_) | (with_reducible refine leafB ?_) | ((with_reducible refine (?_ : (_ : Int) = _)); (with_reducible rfl)) | ((with_reducible refine (?_ : (_ : List (List Value)) = _)); (with_reducible rfl)) | ((with_reducible refine (?_ : (_ : Int) ≠ 0)); (first | assumption | omega | (simp; done) | (simp only [ints_len] at *; omega) | (simp; omega))) | ((with_reducible refine (?_ : (_ : Int) ≤ _)); (first | assumption | omega | (simp; done) | (simp only [ints_len] at *; omega) | (simp; omega))) | ((with_reducible refine (?_ : (_ : Int) < _)); (first | assumption | omega | (simp; done) | (simp only [ints_len] at *; omega) | (simp; omega))) | ((with_reducible refine (?_ : (_ : Nat) ≤ _)); (first | omega | (simp only [List.length_cons, List.length_nil]; omega) | (simp [ints]; done) | (simp; omega))) | ((with_reducible refine (?_ : (_ : Nat) < _)); (first | omega | (simp only [List.length_cons, List.length_nil]; omega) | (simp [ints]; done) | (simp; omega))) | ((with_reducible refine (?_ : (_ : Nat) = _)); (first | (with_reducible rfl) | (simp; done) | (simp only [fr_len]) | (simp only [ints_len]) | omega | (simp [*]; done))) | (refine And.intro ?_ ?_) | (intro h; first | (exact Bool.noConfusion h) | ((simp only [decide_eq_true_eq, decide_eq_false_iff_not, beq_iff_eq, bne_iff_ne, ne_eq, beq_eq_false_iff_ne, bne_eq_false_iff_eq, Bool.not_eq_true', Bool.not_eq_false', Bool.not_eq_true, Bool.not_eq_false, Int.not_le, Int.not_lt, Bool.and_eq_true, Bool.or_eq_true, Bool.or_eq_false_iff, Bool.and_eq_false_iff] at h); (try (first | (exact Bool.noConfusion h) | (exact (h trivial).elim)))) | skip) | ((refine (?_ : ACall _ _ _ _ _ _ _)); first | ((apply acall (spec_nuMod _ _ ?_ ?_)); (focus (repeat' (first | exact rfl | (refine And.intro ?_ ?_) | (simp only [ints_len]; done) | (simp; done) | omega))))) | ((with_reducible refine (?_ : chk _ _ = true)); kernel_rfl) | ((with_reducible refine (?_ : (_ : IntKind) = _)); (with_reducible rfl)) | ((with_reducible refine (?_ : eqC (C.pvw _ _ _) (C.pvw _ _ _))); exact rfl) | ((with_reducible refine (?_ : eqC (C.pv (Value.int IntKind.u64 _)) _)); exact rfl) | ((with_reducible refine (?_ : eqC (C.pv (Value.string _)) _)); exact rfl) | exact trivial)
  all_goals (unfold hE; first | (rw [if_pos (by omega)]; done) | (rw [if_neg (by omega)]; done) | omega)

theorem spec_hiSign (o : Int) (h : 0 ≤ o) : AFun Try.prog 22 [] [I o] (I (hS o)) [] [] := by
  have t2 : o.tmod 2 = o % 2 := tmod_nonneg' h
  refine afun_intro fn22 rfl rfl (by repeat' (first | exact trivial | (simp; done) | (simp [*]; done) | refine ⟨?_, ?_⟩)) ?_
  unfold ac22
  repeat' (first | ((with_reducible refine (?_ : (_ : Bool) = _)); (with_reducible rfl)) | ((with_reducible refine (?_ : (_ : Nat × Nat) = _)); (with_reducible rfl)) | (with_reducible refine leafRI ?_) | (with_reducible refine leafRB ?_) | (with_reducible refine leafI ?_) | (with_reducible refine leafB ?_) | ((with_reducible refine (?_ : (_ : Int) = _)); (with_reducible rfl)) | ((with_reducible refine (?_ : (_ : List (List Value)) = _)); (with_reducible rfl)) | ((with_reducible refine (?_ : (_ : Int) ≠ 0)); (first | assumption | omega | (simp; done) | (simp only [ints_len] at *; omega) | (simp; omega))) | ((with_reducible refine (?_ : (_ : Int) ≤ _)); (first | assumption | omega | (simp; done) | (simp only [ints_len] at *; omega) | (simp; omega))) | ((with_reducible refine (?_ : (_ : Int) < _)); (first | assumption | omega | (simp; done) | (simp only [ints_len] at *; omega) | (simp; omega))) | ((with_reducible refine (?_ : (_ : Nat) ≤ _)); (first | omega | (simp only [List.length_cons, List.length_nil]; omega) | (simp [ints]; done) | (simp; omega))) | ((with_reducible refine (?_ : (_ : Nat) < _)); (first | omega | (simp only [List.length_cons, List.length_nil]; omega) | (simp [ints]; done) | (simp; omega))) | ((with_reducible refine (?_ : (_ : Nat) = _)); (first | (with_reducible rfl) | (simp; done) | (simp only [fr_len]) | (simp only [ints_len]) | omega | (simp [*]; done))) | (refine And.intro ?_ ?_) | (intro h; first | (exact Bool.noConfusion h) | ((simp only [decide_eq_true_eq, decide_eq_false_iff_not, beq_iff_eq, bne_iff_ne, ne_eq, beq_eq_false_iff_ne, bne_eq_false_iff_eq, Bool.not_eq_true', Bool.not_eq_false', Bool.not_eq_true, Bool.not_eq_false, Int.not_le, Int.not_lt, Bool.and_eq_true, Bool.or_eq_true, Bool.or_eq_false_iff, Bool.and_eq_false_iff] at h); (try (first | (exact Bool.noConfusion h) | (exact (h trivial).elim)))) | skip) | ((with_reducible refine (?_ : chk _ _ = true)); kernel_rfl) | ((with_reducible refine (?_ : (_ : IntKind) = _)); (with_reducible rfl)) | ((with_reducible refine (?_ : eqC (C.pvw _ _ _) (C.pvw _ _ _))); exact rfl) | ((with_reducible refine (?_ : eqC (C.pv (Value.int IntKind.u64 _)) _)); exact rfl) | ((with_reducible refine (?_ : eqC (C.pv (Value.string _)) _)); exact rfl) | exact trivial)
  rw [t2, hS, wrap_small (n := 2 * (o % 2)) (by omega) (by omega), wrap_small (by omega) (by omega)]

/-- What the numbers and the place must be. -/
structure HOk (a b p : Int) : Prop where
  a0 : a ≠ 0
  b0 : b ≠ 0
  al : a.natAbs ≤ 2000000000000000
  bl : b.natAbs ≤ 2000000000000000
  pl : p = 0 ∨ (prime p = true ∧ p ≤ 1000000)
theorem pr_odd {p : Int} (hp : prime p = true) (h : ¬ p = 2) : 3 ≤ p ∧ p % 2 = 1 := by
  have h2 := (prime_iff.1 hp).1
  have hodd : p % 2 ≠ 0 := prime_nd hp (by omega) (by omega)
  omega

theorem hO_eq {u : Int} (h : u % 2 = 1) : (u % 4 - 1).tdiv 2 = hO u ∧ 0 ≤ hO u ∧ hO u ≤ 1 := by
  unfold hO
  rw [tdiv_nonneg' (by omega)]
  exact ⟨rfl, by omega, by omega⟩
theorem hE_bd (u : Int) : 0 ≤ hE u ∧ hE u ≤ 1 := by unfold hE; split <;> omega
/-- The numbers of the case 2. -/
theorem h2_eq {u v k m : Int} (hu : u % 2 = 1) (hv : v % 2 = 1) (hk : 0 ≤ k ∧ k ≤ 50) (hm : 0 ≤ m ∧ m ≤ 50) :
    wrap64 (wrap64 (wrap64 ((u % 4 - 1).tdiv 2 * (v % 4 - 1).tdiv 2) + wrap64 (k * hE v)) + wrap64 (m * hE u)) = hO u * hO v + k * hE v + m * hE u ∧ 0 ≤ hO u * hO v + k * hE v + m * hE u := by
  obtain ⟨e1, e2, e3⟩ := hO_eq hu
  obtain ⟨f1, f2, f3⟩ := hO_eq hv
  rw [e1, f1]
  have b1 := hE_bd u
  have b2 := hE_bd v
  have p1 := mul_bd (a := hO u) (b := hO v) (A := 1) (B := 1) (by omega) (by omega) (by omega) (by omega)
  have p2 := mul_bd (a := k) (b := hE v) (A := 50) (B := 1) (by omega) (by omega) (by omega) (by omega)
  have p3 := mul_bd (a := m) (b := hE u) (A := 50) (B := 1) (by omega) (by omega) (by omega) (by omega)
  have q1 := Int.mul_nonneg e2 f2
  have q2 := Int.mul_nonneg hk.1 b2.1
  have q3 := Int.mul_nonneg hm.1 b1.1
  refine ⟨?_, by omega⟩
  rw [wrap_small (n := hO u * hO v) (by omega) (by omega), wrap_small (n := k * hE v) (by omega) (by omega), wrap_small (n := m * hE u) (by omega) (by omega), wrap_small (n := hO u * hO v + k * hE v) (by omega) (by omega), wrap_small (by omega) (by omega)]
theorem hp_eq {p k m : Int} (h1 : 3 ≤ p) (h2 : p ≤ 1000000) (hk : 0 ≤ k ∧ k ≤ 50) (hm : 0 ≤ m ∧ m ≤ 50) :
    wrap64 ((wrap64 (wrap64 (k * m) * wrap64 (p - 1))).tdiv 2) = k * m * (p - 1) / 2 ∧ 0 ≤ k * m * (p - 1) / 2 := by
  have p1 := mul_bd (a := k) (b := m) (A := 50) (B := 50) (by omega) (by omega) (by omega) (by omega)
  have q1 := Int.mul_nonneg hk.1 hm.1
  have p2 := mul_bd (a := k * m) (b := p - 1) (A := 2500) (B := 1000000) (by omega) (by omega) (by omega) (by omega)
  have q2 := Int.mul_nonneg q1 (show 0 ≤ p - 1 by omega)
  rw [wrap_small (n := k * m) (by omega) (by omega), wrap_small (n := p - 1) (by omega) (by omega), wrap_small (n := k * m * (p - 1)) (by omega) (by omega), tdiv_nonneg' q2, wrap_small (by omega) (by omega)]
  exact ⟨rfl, by omega⟩
theorem sgn_mul {s x : Int} (h1 : s = 1 ∨ s = -1) (h2 : x = 1 ∨ x = -1 ∨ x = 0) : wrap64 (s * x) = s * x ∧ (s * x = 1 ∨ s * x = -1 ∨ s * x = 0) := by
  rcases h1 with rfl | rfl <;> rcases h2 with rfl | rfl | rfl <;> exact ⟨wrap_small (by decide) (by decide), by decide⟩
theorem sgn_mul3 {s x : Int} (h1 : s = 1 ∨ s = -1 ∨ s = 0) (h2 : x = 1 ∨ x = -1 ∨ x = 0) : wrap64 (s * x) = s * x ∧ (s * x = 1 ∨ s * x = -1 ∨ s * x = 0) := by
  rcases h1 with rfl | rfl | rfl <;> rcases h2 with rfl | rfl | rfl <;> exact ⟨wrap_small (by decide) (by decide), by decide⟩

theorem odd_of {x : Int} (h : x.tmod 2 ≠ 0) : x % 2 = 1 := by have := tmod_pos (a := x) (m := 2) (by omega); omega

theorem spec_hiSymbol (a b p : Int) (H : HOk a b p) : AFun Try.prog 11 [] [I a, I b, I p] (I (hil a b p)) [] [] := by
  obtain ⟨a0, b0, al, bl, pl⟩ := H
  by_cases h0 : p = 0
  · subst h0
    refine afun_intro fn11 rfl rfl (by repeat' (first | exact trivial | (simp; done) | (simp [*]; done) | refine ⟨?_, ?_⟩)) ?_
    unfold ac11
    repeat' (first | ((with_reducible refine (?_ : (_ : Bool) = _)); (with_reducible rfl)) | ((with_reducible refine (?_ : (_ : Nat × Nat) = _)); (with_reducible rfl)) | (with_reducible refine leafRI ?_) | (with_reducible refine leafRB ?_) | (with_reducible refine leafI ?_) | (with_reducible refine leafB ?_) | ((with_reducible refine (?_ : (_ : Int) = _)); (with_reducible rfl)) | ((with_reducible refine (?_ : (_ : List (List Value)) = _)); (with_reducible rfl)) | ((with_reducible refine (?_ : (_ : Int) ≠ 0)); (first | assumption | omega | (simp; done) | (simp only [ints_len] at *; omega) | (simp; omega))) | ((with_reducible refine (?_ : (_ : Int) ≤ _)); (first | assumption | omega | (simp; done) | (simp only [ints_len] at *; omega) | (simp; omega))) | ((with_reducible refine (?_ : (_ : Int) < _)); (first | assumption | omega | (simp; done) | (simp only [ints_len] at *; omega) | (simp; omega))) | ((with_reducible refine (?_ : (_ : Nat) ≤ _)); (first | omega | (simp only [List.length_cons, List.length_nil]; omega) | (simp [ints]; done) | (simp; omega))) | ((with_reducible refine (?_ : (_ : Nat) < _)); (first | omega | (simp only [List.length_cons, List.length_nil]; omega) | (simp [ints]; done) | (simp; omega))) | ((with_reducible refine (?_ : (_ : Nat) = _)); (first | (with_reducible rfl) | (simp; done) | (simp only [fr_len]) | (simp only [ints_len]) | omega | (simp [*]; done))) | (refine And.intro ?_ ?_) | (intro h; first | (exact Bool.noConfusion h) | ((simp only [decide_eq_true_eq, decide_eq_false_iff_not, beq_iff_eq, bne_iff_ne, ne_eq, beq_eq_false_iff_ne, bne_eq_false_iff_eq, Bool.not_eq_true', Bool.not_eq_false', Bool.not_eq_true, Bool.not_eq_false, Int.not_le, Int.not_lt, Bool.and_eq_true, Bool.or_eq_true, Bool.or_eq_false_iff, Bool.and_eq_false_iff] at h); (try (exfalso; omega))) | skip) | ((with_reducible refine (?_ : chk _ _ = true)); kernel_rfl) | ((with_reducible refine (?_ : (_ : IntKind) = _)); (with_reducible rfl)) | ((with_reducible refine (?_ : eqC (C.pvw _ _ _) (C.pvw _ _ _))); exact rfl) | ((with_reducible refine (?_ : eqC (C.pv (Value.int IntKind.u64 _)) _)); exact rfl) | ((with_reducible refine (?_ : eqC (C.pv (Value.string _)) _)); exact rfl) | exact trivial)
    all_goals (unfold hil; grind)
  obtain ⟨hp, h1⟩ : prime p = true ∧ p ≤ 1000000 := by rcases pl with e | e; exact absurd e h0; exact e
  have h2 := (prime_iff.1 hp).1
  have ea := expo_le (a := a) h2 a0 al
  have eb := expo_le (a := b) h2 b0 bl
  by_cases h2' : p = 2
  · subst h2'
    have T := h2_eq (u := rest 2 a) (v := rest 2 b) (k := expo 2 a) (m := expo 2 b) (odd_of ea.2.2.2.2) (odd_of eb.2.2.2.2) ⟨ea.1, ea.2.1⟩ ⟨eb.1, eb.2.1⟩
    refine afun_intro fn11 rfl rfl (by repeat' (first | exact trivial | (simp; done) | (simp [*]; done) | refine ⟨?_, ?_⟩)) ?_
    unfold ac11
    repeat' (first | ((with_reducible refine (?_ : (_ : Bool) = _)); (with_reducible rfl)) | ((with_reducible refine (?_ : (_ : Nat × Nat) = _)); (with_reducible rfl)) | (with_reducible refine leafRI ?_) | (with_reducible refine leafRB ?_) | (with_reducible refine leafI ?_) | (with_reducible refine leafB ?_) | ((with_reducible refine (?_ : (_ : Int) = _)); (with_reducible rfl)) | ((with_reducible refine (?_ : (_ : List (List Value)) = _)); (with_reducible rfl)) | ((with_reducible refine (?_ : (_ : Int) ≠ 0)); (first | assumption | omega | (simp; done) | (simp only [ints_len] at *; omega) | (simp; omega))) | ((with_reducible refine (?_ : (_ : Int) ≤ _)); (first | assumption | omega | (simp; done) | (simp only [ints_len] at *; omega) | (simp; omega))) | ((with_reducible refine (?_ : (_ : Int) < _)); (first | assumption | omega | (simp; done) | (simp only [ints_len] at *; omega) | (simp; omega))) | ((with_reducible refine (?_ : (_ : Nat) ≤ _)); (first | omega | (simp only [List.length_cons, List.length_nil]; omega) | (simp [ints]; done) | (simp; omega))) | ((with_reducible refine (?_ : (_ : Nat) < _)); (first | omega | (simp only [List.length_cons, List.length_nil]; omega) | (simp [ints]; done) | (simp; omega))) | ((with_reducible refine (?_ : (_ : Nat) = _)); (first | (with_reducible rfl) | (simp; done) | (simp only [fr_len]) | (simp only [ints_len]) | omega | (simp [*]; done))) | (refine And.intro ?_ ?_) | (intro h; first | (exact Bool.noConfusion h) | ((simp only [decide_eq_true_eq, decide_eq_false_iff_not, beq_iff_eq, bne_iff_ne, ne_eq, beq_eq_false_iff_ne, bne_eq_false_iff_eq, Bool.not_eq_true', Bool.not_eq_false', Bool.not_eq_true, Bool.not_eq_false, Int.not_le, Int.not_lt, Bool.and_eq_true, Bool.or_eq_true, Bool.or_eq_false_iff, Bool.and_eq_false_iff] at h); (try (exfalso; omega))) | skip) | ((refine (?_ : ACall _ _ _ _ _ _ _)); first | ((apply acall (spec_hiSplit _ _ ?_ ?_ ?_)); (focus (repeat' (first | exact rfl | (refine And.intro ?_ ?_) | (simp only [ints_len]; done) | (simp; done) | omega)))) | ((apply acall (spec_hiOdd _)); (focus (repeat' (first | exact rfl | (refine And.intro ?_ ?_) | (simp only [ints_len]; done) | (simp; done) | omega)))) | ((apply acall (spec_hiEight _)); (focus (repeat' (first | exact rfl | (refine And.intro ?_ ?_) | (simp only [ints_len]; done) | (simp; done) | omega)))) | ((apply acall (spec_hiSign _ ?_)); (focus (repeat' (first | exact rfl | (refine And.intro ?_ ?_) | (simp only [ints_len]; done) | (simp; done) | omega))))) | ((with_reducible refine (?_ : chk _ _ = true)); kernel_rfl) | ((with_reducible refine (?_ : (_ : IntKind) = _)); (with_reducible rfl)) | ((with_reducible refine (?_ : eqC (C.pvw _ _ _) (C.pvw _ _ _))); exact rfl) | ((with_reducible refine (?_ : eqC (C.pv (Value.int IntKind.u64 _)) _)); exact rfl) | ((with_reducible refine (?_ : eqC (C.pv (Value.string _)) _)); exact rfl) | exact trivial)
    rw [T.1]; rfl
  · obtain ⟨h3, h4⟩ := pr_odd hp h2'
    have Q := hp_eq (p := p) (k := expo p a) (m := expo p b) h3 h1 ⟨ea.1, ea.2.1⟩ ⟨eb.1, eb.2.1⟩
    have ta : (expo p a).tmod 2 = expo p a % 2 := tmod_nonneg' ea.1
    have tb : (expo p b).tmod 2 = expo p b % 2 := tmod_nonneg' eb.1
    have s1 := hS_or (expo p a * expo p b * (p - 1) / 2)
    have s2 := sgn_mul s1 (J_or (rest p b) p)
    have s3 := sgn_mul s1 (J_or (rest p a) p)
    have s4 := sgn_mul3 s2.2 (J_or (rest p a) p)
    have hh : hil a b p = hS (expo p a * expo p b * (p - 1) / 2) * (if expo p a % 2 = 1 then J (rest p b) p else 1) * (if expo p b % 2 = 1 then J (rest p a) p else 1) := by unfold hil; rw [if_neg h0, if_neg h2']
    refine afun_intro fn11 rfl rfl (by repeat' (first | exact trivial | (simp; done) | (simp [*]; done) | refine ⟨?_, ?_⟩)) ?_
    unfold ac11
    repeat' (first | ((with_reducible refine (?_ : (_ : Bool) = _)); (with_reducible rfl)) | ((with_reducible refine (?_ : (_ : Nat × Nat) = _)); (with_reducible rfl)) | (with_reducible refine leafRI ?_) | (with_reducible refine leafRB ?_) | (with_reducible refine leafI ?_) | (with_reducible refine leafB ?_) | ((with_reducible refine (?_ : (_ : Int) = _)); (with_reducible rfl)) | ((with_reducible refine (?_ : (_ : List (List Value)) = _)); (with_reducible rfl)) | ((with_reducible refine (?_ : (_ : Int) ≠ 0)); (first | assumption | omega | (simp; done) | (simp only [ints_len] at *; omega) | (simp; omega))) | ((with_reducible refine (?_ : (_ : Int) ≤ _)); (first | assumption | omega | (simp; done) | (simp only [ints_len] at *; omega) | (simp; omega))) | ((with_reducible refine (?_ : (_ : Int) < _)); (first | assumption | omega | (simp; done) | (simp only [ints_len] at *; omega) | (simp; omega))) | ((with_reducible refine (?_ : (_ : Nat) ≤ _)); (first | omega | (simp only [List.length_cons, List.length_nil]; omega) | (simp [ints]; done) | (simp; omega))) | ((with_reducible refine (?_ : (_ : Nat) < _)); (first | omega | (simp only [List.length_cons, List.length_nil]; omega) | (simp [ints]; done) | (simp; omega))) | ((with_reducible refine (?_ : (_ : Nat) = _)); (first | (with_reducible rfl) | (simp; done) | (simp only [fr_len]) | (simp only [ints_len]) | omega | (simp [*]; done))) | (refine And.intro ?_ ?_) | (intro h; first | (exact Bool.noConfusion h) | ((simp only [decide_eq_true_eq, decide_eq_false_iff_not, beq_iff_eq, bne_iff_ne, ne_eq, beq_eq_false_iff_ne, bne_eq_false_iff_eq, Bool.not_eq_true', Bool.not_eq_false', Bool.not_eq_true, Bool.not_eq_false, Int.not_le, Int.not_lt, Bool.and_eq_true, Bool.or_eq_true, Bool.or_eq_false_iff, Bool.and_eq_false_iff] at h); (try (exfalso; omega))) | skip) | ((refine (?_ : ACall _ _ _ _ _ _ _)); first | ((apply acall (spec_hiSplit _ _ ?_ ?_ ?_)); (focus (repeat' (first | exact rfl | (refine And.intro ?_ ?_) | (simp only [ints_len]; done) | (simp; done) | omega)))) | ((apply acall (spec_hiSign _ ?_)); (focus (repeat' (first | exact rfl | (refine And.intro ?_ ?_) | (simp only [ints_len]; done) | (simp; done) | omega)))) | ((apply acall (spec_syJacobi _ _ ?_ ?_ ?_)); (focus (repeat' (first | exact rfl | (refine And.intro ?_ ?_) | (simp only [ints_len]; done) | (simp; done) | omega))))) | ((with_reducible refine (?_ : chk _ _ = true)); kernel_rfl) | ((with_reducible refine (?_ : (_ : IntKind) = _)); (with_reducible rfl)) | ((with_reducible refine (?_ : eqC (C.pvw _ _ _) (C.pvw _ _ _))); exact rfl) | ((with_reducible refine (?_ : eqC (C.pv (Value.int IntKind.u64 _)) _)); exact rfl) | ((with_reducible refine (?_ : eqC (C.pv (Value.string _)) _)); exact rfl) | exact trivial)
    any_goals (first | (rw [Q.1]; exact Q.2) | omega)
    · rw [ta] at *; rw [tb] at *; rw [hh, Q.1, s2.1, s4.1, if_pos (by assumption), if_pos (by assumption)]
    · rw [ta] at *; rw [tb] at *; rw [hh, Q.1, s2.1, if_pos (by assumption), if_neg (by assumption), Int.mul_one]
    · rw [ta] at *; rw [tb] at *; rw [hh, Q.1, s3.1, if_neg (by assumption), if_pos (by assumption), Int.mul_one]
    · rw [ta] at *; rw [tb] at *; rw [hh, Q.1, if_neg (by assumption), if_neg (by assumption), Int.mul_one, Int.mul_one]

theorem impl_signPower (s k : Int) (h : 0 ≤ k) : AFun Try.prog 29 [] [I s, I k] (I (if k % 2 = 1 then s else 1)) [] [] := by
  have t2 : k.tmod 2 = k % 2 := tmod_nonneg' h
  refine afun_intro fn29 rfl rfl (by repeat' (first | exact trivial | (simp; done) | (simp [*]; done) | refine ⟨?_, ?_⟩)) ?_
  unfold ac29
  repeat' (first | ((with_reducible refine (?_ : (_ : Bool) = _)); (with_reducible rfl)) | ((with_reducible refine (?_ : (_ : Nat × Nat) = _)); (with_reducible rfl)) | (with_reducible refine leafRI ?_) | (with_reducible refine leafRB ?_) | (with_reducible refine leafI ?_) | (with_reducible refine leafB ?_) | ((with_reducible refine (?_ : (_ : Int) = _)); (with_reducible rfl)) | ((with_reducible refine (?_ : (_ : List (List Value)) = _)); (with_reducible rfl)) | ((with_reducible refine (?_ : (_ : Int) ≠ 0)); (first | assumption | omega | (simp; done) | (simp only [ints_len] at *; omega) | (simp; omega))) | ((with_reducible refine (?_ : (_ : Int) ≤ _)); (first | assumption | omega | (simp; done) | (simp only [ints_len] at *; omega) | (simp; omega))) | ((with_reducible refine (?_ : (_ : Int) < _)); (first | assumption | omega | (simp; done) | (simp only [ints_len] at *; omega) | (simp; omega))) | ((with_reducible refine (?_ : (_ : Nat) ≤ _)); (first | omega | (simp only [List.length_cons, List.length_nil]; omega) | (simp [ints]; done) | (simp; omega))) | ((with_reducible refine (?_ : (_ : Nat) < _)); (first | omega | (simp only [List.length_cons, List.length_nil]; omega) | (simp [ints]; done) | (simp; omega))) | ((with_reducible refine (?_ : (_ : Nat) = _)); (first | (with_reducible rfl) | (simp; done) | (simp only [fr_len]) | (simp only [ints_len]) | omega | (simp [*]; done))) | (refine And.intro ?_ ?_) | (intro h; first | (exact Bool.noConfusion h) | ((simp only [decide_eq_true_eq, decide_eq_false_iff_not, beq_iff_eq, bne_iff_ne, ne_eq, beq_eq_false_iff_ne, bne_eq_false_iff_eq, Bool.not_eq_true', Bool.not_eq_false', Bool.not_eq_true, Bool.not_eq_false, Int.not_le, Int.not_lt, Bool.and_eq_true, Bool.or_eq_true, Bool.or_eq_false_iff, Bool.and_eq_false_iff] at h); (try (first | (exact Bool.noConfusion h) | (exact (h trivial).elim)))) | skip) | ((with_reducible refine (?_ : chk _ _ = true)); kernel_rfl) | ((with_reducible refine (?_ : (_ : IntKind) = _)); (with_reducible rfl)) | ((with_reducible refine (?_ : eqC (C.pvw _ _ _) (C.pvw _ _ _))); exact rfl) | ((with_reducible refine (?_ : eqC (C.pv (Value.int IntKind.u64 _)) _)); exact rfl) | ((with_reducible refine (?_ : eqC (C.pv (Value.string _)) _)); exact rfl) | exact trivial)
  all_goals (first | (rw [if_pos (by omega)]; done) | (rw [if_neg (by omega)]; done) | (rw [if_pos (by omega)]) | (rw [if_neg (by omega)]))

theorem two_hE {v : Int} (h : v % 2 = 1) : (hE v = 0 ∧ two v = 1) ∨ (hE v = 1 ∧ two v = -1) := by
  unfold hE two
  by_cases e : v % 8 = 1 ∨ v % 8 = 7
  · rw [if_pos e, if_neg (by omega)]; simp
  · rw [if_neg e, if_pos (by omega)]; simp
theorem hO_or {u : Int} (h : u % 2 = 1) : (u % 4 = 3 ∧ hO u = 1) ∨ (u % 4 ≠ 3 ∧ hO u = 0) := by unfold hO; omega
theorem i2_eq {u v k m s : Int} (hu : u % 2 = 1) (hv : v % 2 = 1) (hs : s = if u % 4 = 3 ∧ v % 4 = 3 then -1 else 1) :
    wrap64 (wrap64 (s * if m % 2 = 1 then two u else 1) * if k % 2 = 1 then two v else 1) = hS (hO u * hO v + k * hE v + m * hE u) := by
  subst hs
  rcases hO_or hu with ⟨a1, a2⟩ | ⟨a1, a2⟩ <;> rcases hO_or hv with ⟨b1, b2⟩ | ⟨b1, b2⟩ <;> rcases two_hE hu with ⟨c1, c2⟩ | ⟨c1, c2⟩ <;> rcases two_hE hv with ⟨d1, d2⟩ | ⟨d1, d2⟩ <;> rw [a2, b2, c1, c2, d1, d2] <;>
    by_cases hm : m % 2 = 1 <;> by_cases hk : k % 2 = 1 <;> simp only [a1, b1, hm, hk, and_self, and_true, and_false, false_and, ne_eq, not_false_eq_true, if_true, if_false] <;> unfold hS wrap64 <;> omega
theorem par_mul (k m : Int) : (k * m) % 2 = if k % 2 = 1 ∧ m % 2 = 1 then 1 else 0 := by
  rw [Int.mul_emod]
  rcases (show k % 2 = 0 ∨ k % 2 = 1 by omega) with e | e <;> rcases (show m % 2 = 0 ∨ m % 2 = 1 by omega) with g | g <;> rw [e, g] <;> decide
theorem hS_par {p k m : Int} (hp : p % 2 = 1) : hS (k * m * (p - 1) / 2) = if (k % 2 = 1 ∧ m % 2 = 1) ∧ p % 4 = 3 then -1 else 1 := by
  have e : k * m * (p - 1) / 2 = k * m * ((p - 1) / 2) := by
    rw [show p - 1 = 2 * ((p - 1) / 2) by omega, ← Int.mul_assoc, Int.mul_comm (k * m) 2, Int.mul_assoc, Int.mul_ediv_cancel_left _ (by omega), show 2 * ((p - 1) / 2) = p - 1 by omega]
  have h1 := par_mul k m
  have h2 := par_mul (k * m) ((p - 1) / 2)
  rw [e, hS, h2]
  by_cases c : (k % 2 = 1 ∧ m % 2 = 1) ∧ p % 4 = 3
  · rw [if_pos c]; rw [if_pos c.1] at h1; rw [if_pos ⟨h1, by omega⟩]; rfl
  · rw [if_neg c, if_neg]; rfl
    rintro ⟨h3, h4⟩
    apply c
    refine ⟨?_, by omega⟩
    rw [h3] at h1
    split at h1
    · assumption
    · cases h1
theorem ip_eq {p k m s x y : Int} (hp : p % 2 = 1) (hx : x = 1 ∨ x = -1 ∨ x = 0) (hy : y = 1 ∨ y = -1 ∨ y = 0) (hs : s = if (k % 2 = 1 ∧ m % 2 = 1) ∧ p % 4 = 3 then -1 else 1) :
    wrap64 (wrap64 (s * if m % 2 = 1 then x else 1) * if k % 2 = 1 then y else 1) = hS (k * m * (p - 1) / 2) * (if k % 2 = 1 then y else 1) * (if m % 2 = 1 then x else 1) := by
  rw [hS_par hp, ← hs]
  have hs' : s = 1 ∨ s = -1 := by rw [hs]; split <;> simp
  clear hs
  rcases hs' with rfl | rfl <;> rcases hx with rfl | rfl | rfl <;> rcases hy with rfl | rfl | rfl <;> split <;> split <;> unfold wrap64 <;> rfl

theorem hil_p {a b p : Int} (h0 : ¬ p = 0) (h2 : ¬ p = 2) : hil a b p = hS (expo p a * expo p b * (p - 1) / 2) * (if expo p a % 2 = 1 then J (rest p b) p else 1) * (if expo p b % 2 = 1 then J (rest p a) p else 1) := by
  unfold hil; rw [if_neg h0, if_neg h2]

theorem impl_hilbert (a b p : Int) (H : HOk a b p) : AFun Try.prog 14 [] [I a, I b, I p] (I (hil a b p)) [] [] := by
  obtain ⟨a0, b0, al, bl, pl⟩ := H
  by_cases h0 : p = 0
  · subst h0
    refine afun_intro fn14 rfl rfl (by repeat' (first | exact trivial | (simp; done) | (simp [*]; done) | refine ⟨?_, ?_⟩)) ?_
    unfold ac14
    repeat' (first | ((with_reducible refine (?_ : (_ : Bool) = _)); (with_reducible rfl)) | ((with_reducible refine (?_ : (_ : Nat × Nat) = _)); (with_reducible rfl)) | (with_reducible refine leafRI ?_) | (with_reducible refine leafRB ?_) | (with_reducible refine leafI ?_) | (with_reducible refine leafB ?_) | ((with_reducible refine (?_ : (_ : Int) = _)); (with_reducible rfl)) | ((with_reducible refine (?_ : (_ : List (List Value)) = _)); (with_reducible rfl)) | ((with_reducible refine (?_ : (_ : Int) ≠ 0)); (first | assumption | omega | (simp; done) | (simp only [ints_len] at *; omega) | (simp; omega))) | ((with_reducible refine (?_ : (_ : Int) ≤ _)); (first | assumption | omega | (simp; done) | (simp only [ints_len] at *; omega) | (simp; omega))) | ((with_reducible refine (?_ : (_ : Int) < _)); (first | assumption | omega | (simp; done) | (simp only [ints_len] at *; omega) | (simp; omega))) | ((with_reducible refine (?_ : (_ : Nat) ≤ _)); (first | omega | (simp only [List.length_cons, List.length_nil]; omega) | (simp [ints]; done) | (simp; omega))) | ((with_reducible refine (?_ : (_ : Nat) < _)); (first | omega | (simp only [List.length_cons, List.length_nil]; omega) | (simp [ints]; done) | (simp; omega))) | ((with_reducible refine (?_ : (_ : Nat) = _)); (first | (with_reducible rfl) | (simp; done) | (simp only [fr_len]) | (simp only [ints_len]) | omega | (simp [*]; done))) | (refine And.intro ?_ ?_) | (intro h; first | (exact Bool.noConfusion h) | ((simp only [decide_eq_true_eq, decide_eq_false_iff_not, beq_iff_eq, bne_iff_ne, ne_eq, beq_eq_false_iff_ne, bne_eq_false_iff_eq, Bool.not_eq_true', Bool.not_eq_false', Bool.not_eq_true, Bool.not_eq_false, Int.not_le, Int.not_lt, Bool.and_eq_true, Bool.or_eq_true, Bool.or_eq_false_iff, Bool.and_eq_false_iff] at h); (try (exfalso; omega))) | skip) | ((with_reducible refine (?_ : chk _ _ = true)); kernel_rfl) | ((with_reducible refine (?_ : (_ : IntKind) = _)); (with_reducible rfl)) | ((with_reducible refine (?_ : eqC (C.pvw _ _ _) (C.pvw _ _ _))); exact rfl) | ((with_reducible refine (?_ : eqC (C.pv (Value.int IntKind.u64 _)) _)); exact rfl) | ((with_reducible refine (?_ : eqC (C.pv (Value.string _)) _)); exact rfl) | exact trivial)
    all_goals (unfold hil; grind)
  obtain ⟨hp, h1⟩ : prime p = true ∧ p ≤ 1000000 := by rcases pl with e | e; exact absurd e h0; exact e
  have h2 := (prime_iff.1 hp).1
  have ea := expo_le (a := a) h2 a0 al
  have eb := expo_le (a := b) h2 b0 bl
  refine afun_intro fn14 rfl rfl (by repeat' (first | exact trivial | (simp; done) | (simp [*]; done) | refine ⟨?_, ?_⟩)) ?_
  unfold ac14
  repeat' (first | ((with_reducible refine (?_ : (_ : Bool) = _)); (with_reducible rfl)) | ((with_reducible refine (?_ : (_ : Nat × Nat) = _)); (with_reducible rfl)) | (with_reducible refine leafRI ?_) | (with_reducible refine leafRB ?_) | (with_reducible refine leafI ?_) | (with_reducible refine leafB ?_) | ((with_reducible refine (?_ : (_ : Int) = _)); (with_reducible rfl)) | ((with_reducible refine (?_ : (_ : List (List Value)) = _)); (with_reducible rfl)) | ((with_reducible refine (?_ : (_ : Int) ≠ 0)); (first | assumption | omega | (simp; done) | (simp only [ints_len] at *; omega) | (simp; omega))) | ((with_reducible refine (?_ : (_ : Int) ≤ _)); (first | assumption | omega | (simp; done) | (simp only [ints_len] at *; omega) | (simp; omega))) | ((with_reducible refine (?_ : (_ : Int) < _)); (first | assumption | omega | (simp; done) | (simp only [ints_len] at *; omega) | (simp; omega))) | ((with_reducible refine (?_ : (_ : Nat) ≤ _)); (first | omega | (simp only [List.length_cons, List.length_nil]; omega) | (simp [ints]; done) | (simp; omega))) | ((with_reducible refine (?_ : (_ : Nat) < _)); (first | omega | (simp only [List.length_cons, List.length_nil]; omega) | (simp [ints]; done) | (simp; omega))) | ((with_reducible refine (?_ : (_ : Nat) = _)); (first | (with_reducible rfl) | (simp; done) | (simp only [fr_len]) | (simp only [ints_len]) | omega | (simp [*]; done))) | (refine And.intro ?_ ?_) | (intro h; first | (exact Bool.noConfusion h) | ((simp only [decide_eq_true_eq, decide_eq_false_iff_not, beq_iff_eq, bne_iff_ne, ne_eq, beq_eq_false_iff_ne, bne_eq_false_iff_eq, Bool.not_eq_true', Bool.not_eq_false', Bool.not_eq_true, Bool.not_eq_false, Int.not_le, Int.not_lt, Bool.and_eq_true, Bool.or_eq_true, Bool.or_eq_false_iff, Bool.and_eq_false_iff] at h); (try (exfalso; omega))) | skip) | ((refine (?_ : ACall _ _ _ _ _ _ _)); first | ((apply acall (impl_exponent _ _ ?_ ?_ ?_)); (focus (repeat' (first | exact rfl | (refine And.intro ?_ ?_) | (simp only [ints_len]; done) | (simp; done) | omega))))) | ((with_reducible refine (?_ : chk _ _ = true)); kernel_rfl) | ((with_reducible refine (?_ : (_ : IntKind) = _)); (with_reducible rfl)) | ((with_reducible refine (?_ : eqC (C.pvw _ _ _) (C.pvw _ _ _))); exact rfl) | ((with_reducible refine (?_ : eqC (C.pv (Value.int IntKind.u64 _)) _)); exact rfl) | ((with_reducible refine (?_ : eqC (C.pv (Value.string _)) _)); exact rfl) | exact trivial)
  refine loop_rule (σ := Int × Int) (fun s => [(0, I s.1), (9, I s.2)]) (fun _ => []) (fun s => s.1 ≠ 0 ∧ s.1.natAbs ≤ 2000000000000000 ∧ 0 ≤ s.2 ∧ s.2 + expo p s.1 = expo p a ∧ rest p s.1 = rest p a) (fun s => (expo p a - s.2).toNat) ((a, 0)) ?_ (by repeat' (first | exact trivial | exact rfl | (refine And.intro ?_ ?_))) trivial (fun s => ⟨rfl, rfl⟩) (fun s i h => by first | exact absurd h (Nat.not_lt_zero i) | (cases i with | zero => rfl | succ i => exact absurd (Nat.lt_of_succ_lt_succ h) (Nat.not_lt_zero i)) | (rcases i with _ | _ | _ | _ | _ | _ | _ | _ | _ | i <;> first | rfl | (exfalso; simp at h; done) | (exfalso; simp only [List.length_cons, List.length_nil] at h; omega))) ?_
  · exact ⟨a0, al, by dsimp only; omega, by dsimp only; omega, rfl⟩
  · rintro ⟨x, i⟩ ⟨g1, g2, g3, g4, g5⟩
    dsimp only at g1 g2 g3 g4 g5 ⊢
    have hx := expo_le h2 g1 g2
    have w1 : wrap64 (i + 1) = i + 1 := wrap_small (by omega) (by omega)
    repeat' (first | ((with_reducible refine (?_ : (_ : Bool) = _)); (with_reducible rfl)) | ((with_reducible refine (?_ : (_ : Nat × Nat) = _)); (with_reducible rfl)) | (with_reducible refine leafRI ?_) | (with_reducible refine leafRB ?_) | (with_reducible refine leafI ?_) | (with_reducible refine leafB ?_) | ((with_reducible refine (?_ : (_ : Int) = _)); (with_reducible rfl)) | ((with_reducible refine (?_ : (_ : List (List Value)) = _)); (with_reducible rfl)) | ((with_reducible refine (?_ : (_ : Int) ≠ 0)); (first | assumption | omega | (simp; done) | (simp only [ints_len] at *; omega) | (simp; omega))) | ((with_reducible refine (?_ : (_ : Int) ≤ _)); (first | assumption | omega | (simp; done) | (simp only [ints_len] at *; omega) | (simp; omega))) | ((with_reducible refine (?_ : (_ : Int) < _)); (first | assumption | omega | (simp; done) | (simp only [ints_len] at *; omega) | (simp; omega))) | ((with_reducible refine (?_ : (_ : Nat) ≤ _)); (first | omega | (simp only [List.length_cons, List.length_nil]; omega) | (simp [ints]; done) | (simp; omega))) | ((with_reducible refine (?_ : (_ : Nat) < _)); (first | omega | (simp only [List.length_cons, List.length_nil]; omega) | (simp [ints]; done) | (simp; omega))) | ((with_reducible refine (?_ : (_ : Nat) = _)); (first | (with_reducible rfl) | (simp; done) | (simp only [fr_len]) | (simp only [ints_len]) | omega | (simp [*]; done))) | (refine And.intro ?_ ?_) | (intro h; first | (exact Bool.noConfusion h) | ((simp only [decide_eq_true_eq, decide_eq_false_iff_not, beq_iff_eq, bne_iff_ne, ne_eq, beq_eq_false_iff_ne, bne_eq_false_iff_eq, Bool.not_eq_true', Bool.not_eq_false', Bool.not_eq_true, Bool.not_eq_false, Int.not_le, Int.not_lt, Bool.and_eq_true, Bool.or_eq_true, Bool.or_eq_false_iff, Bool.and_eq_false_iff] at h); (try (first | (exact Bool.noConfusion h) | (exact (h trivial).elim)))) | skip) | ((with_reducible refine (?_ : chk _ _ = true)); kernel_rfl) | ((with_reducible refine (?_ : (_ : IntKind) = _)); (with_reducible rfl)) | ((with_reducible refine (?_ : eqC (C.pvw _ _ _) (C.pvw _ _ _))); exact rfl) | ((with_reducible refine (?_ : eqC (C.pv (Value.int IntKind.u64 _)) _)); exact rfl) | ((with_reducible refine (?_ : eqC (C.pv (Value.string _)) _)); exact rfl) | exact trivial)
    · have hm := expo_pos (p := p) (a := x) h2 (by omega)
      have hl := tdiv_less h2 g1 hm
      obtain ⟨e1, e2⟩ := expo_yes ⟨h2, g1, hm⟩
      have wd : wrap64 (x.tdiv p) = x.tdiv p := wrap_small (by omega) (by omega)
      refine ⟨(wrap64 (x.tdiv p), wrap64 (i + 1)), ?_, ?_, none, And.intro rfl (And.intro (by repeat' (first | exact trivial | exact rfl | (refine And.intro ?_ ?_))) (by repeat' (first | exact trivial | exact rfl | (refine And.intro ?_ ?_))))⟩
      · dsimp only
        rw [wd, w1]
        exact ⟨tdiv_ne g1 hm, by omega, by omega, by omega, by rw [← e2]; exact g5⟩
      · dsimp only; rw [w1]; omega
    · have hxa : x = rest p a := by rw [← g5]; exact (expo_zero h2 g1 (by omega)).symm
      subst hxa
      clear g1 g2 g3 g4 g5 hx w1
      repeat' (first | ((with_reducible refine (?_ : (_ : Bool) = _)); (with_reducible rfl)) | ((with_reducible refine (?_ : (_ : Nat × Nat) = _)); (with_reducible rfl)) | (with_reducible refine leafRI ?_) | (with_reducible refine leafRB ?_) | (with_reducible refine leafI ?_) | (with_reducible refine leafB ?_) | ((with_reducible refine (?_ : (_ : Int) = _)); (with_reducible rfl)) | ((with_reducible refine (?_ : (_ : List (List Value)) = _)); (with_reducible rfl)) | ((with_reducible refine (?_ : (_ : Int) ≠ 0)); (first | assumption | omega | (simp; done) | (simp only [ints_len] at *; omega) | (simp; omega))) | ((with_reducible refine (?_ : (_ : Int) ≤ _)); (first | assumption | omega | (simp; done) | (simp only [ints_len] at *; omega) | (simp; omega))) | ((with_reducible refine (?_ : (_ : Int) < _)); (first | assumption | omega | (simp; done) | (simp only [ints_len] at *; omega) | (simp; omega))) | ((with_reducible refine (?_ : (_ : Nat) ≤ _)); (first | omega | (simp only [List.length_cons, List.length_nil]; omega) | (simp [ints]; done) | (simp; omega))) | ((with_reducible refine (?_ : (_ : Nat) < _)); (first | omega | (simp only [List.length_cons, List.length_nil]; omega) | (simp [ints]; done) | (simp; omega))) | ((with_reducible refine (?_ : (_ : Nat) = _)); (first | (with_reducible rfl) | (simp; done) | (simp only [fr_len]) | (simp only [ints_len]) | omega | (simp [*]; done))) | (refine And.intro ?_ ?_) | (intro h; first | (exact Bool.noConfusion h) | ((simp only [decide_eq_true_eq, decide_eq_false_iff_not, beq_iff_eq, bne_iff_ne, ne_eq, beq_eq_false_iff_ne, bne_eq_false_iff_eq, Bool.not_eq_true', Bool.not_eq_false', Bool.not_eq_true, Bool.not_eq_false, Int.not_le, Int.not_lt, Bool.and_eq_true, Bool.or_eq_true, Bool.or_eq_false_iff, Bool.and_eq_false_iff] at h); (try (first | (exact Bool.noConfusion h) | (exact (h trivial).elim)))) | skip) | ((with_reducible refine (?_ : chk _ _ = true)); kernel_rfl) | ((with_reducible refine (?_ : (_ : IntKind) = _)); (with_reducible rfl)) | ((with_reducible refine (?_ : eqC (C.pvw _ _ _) (C.pvw _ _ _))); exact rfl) | ((with_reducible refine (?_ : eqC (C.pv (Value.int IntKind.u64 _)) _)); exact rfl) | ((with_reducible refine (?_ : eqC (C.pv (Value.string _)) _)); exact rfl) | exact trivial)
      refine loop_rule (σ := Int × Int) (fun s => [(1, I s.1), (10, I s.2)]) (fun _ => []) (fun s => s.1 ≠ 0 ∧ s.1.natAbs ≤ 2000000000000000 ∧ 0 ≤ s.2 ∧ s.2 + expo p s.1 = expo p b ∧ rest p s.1 = rest p b) (fun s => (expo p b - s.2).toNat) ((b, 0)) ?_ (by repeat' (first | exact trivial | exact rfl | (refine And.intro ?_ ?_))) trivial (fun s => ⟨rfl, rfl⟩) (fun s i h => by first | exact absurd h (Nat.not_lt_zero i) | (cases i with | zero => rfl | succ i => exact absurd (Nat.lt_of_succ_lt_succ h) (Nat.not_lt_zero i)) | (rcases i with _ | _ | _ | _ | _ | _ | _ | _ | _ | i <;> first | rfl | (exfalso; simp at h; done) | (exfalso; simp only [List.length_cons, List.length_nil] at h; omega))) ?_
      · exact ⟨b0, bl, by dsimp only; omega, by dsimp only; omega, rfl⟩
      · rintro ⟨y, j⟩ ⟨g1, g2, g3, g4, g5⟩
        dsimp only at g1 g2 g3 g4 g5 ⊢
        have hx := expo_le h2 g1 g2
        have w1 : wrap64 (j + 1) = j + 1 := wrap_small (by omega) (by omega)
        have hyb : expo p b ≤ j → y = rest p b := fun h => by rw [← g5]; exact (expo_zero h2 g1 (by omega)).symm
        repeat' (first | ((with_reducible refine (?_ : (_ : Bool) = _)); (with_reducible rfl)) | ((with_reducible refine (?_ : (_ : Nat × Nat) = _)); (with_reducible rfl)) | (with_reducible refine leafRI ?_) | (with_reducible refine leafRB ?_) | (with_reducible refine leafI ?_) | (with_reducible refine leafB ?_) | ((with_reducible refine (?_ : (_ : Int) = _)); (with_reducible rfl)) | ((with_reducible refine (?_ : (_ : List (List Value)) = _)); (with_reducible rfl)) | ((with_reducible refine (?_ : (_ : Int) ≠ 0)); (first | assumption | omega | (simp; done) | (simp only [ints_len] at *; omega) | (simp; omega))) | ((with_reducible refine (?_ : (_ : Int) ≤ _)); (first | assumption | omega | (simp; done) | (simp only [ints_len] at *; omega) | (simp; omega))) | ((with_reducible refine (?_ : (_ : Int) < _)); (first | assumption | omega | (simp; done) | (simp only [ints_len] at *; omega) | (simp; omega))) | ((with_reducible refine (?_ : (_ : Nat) ≤ _)); (first | omega | (simp only [List.length_cons, List.length_nil]; omega) | (simp [ints]; done) | (simp; omega))) | ((with_reducible refine (?_ : (_ : Nat) < _)); (first | omega | (simp only [List.length_cons, List.length_nil]; omega) | (simp [ints]; done) | (simp; omega))) | ((with_reducible refine (?_ : (_ : Nat) = _)); (first | (with_reducible rfl) | (simp; done) | (simp only [fr_len]) | (simp only [ints_len]) | omega | (simp [*]; done))) | (refine And.intro ?_ ?_) | (intro h; first | (exact Bool.noConfusion h) | ((simp only [decide_eq_true_eq, decide_eq_false_iff_not, beq_iff_eq, bne_iff_ne, ne_eq, beq_eq_false_iff_ne, bne_eq_false_iff_eq, Bool.not_eq_true', Bool.not_eq_false', Bool.not_eq_true, Bool.not_eq_false, Int.not_le, Int.not_lt, Bool.and_eq_true, Bool.or_eq_true, Bool.or_eq_false_iff, Bool.and_eq_false_iff] at h); (try (first | (exact Bool.noConfusion h) | (exact (h trivial).elim)))) | skip) | ((refine (?_ : ACall _ _ _ _ _ _ _)); first | ((apply acall (impl_mod _ _ ?_ ?_)); (focus (repeat' (first | exact rfl | (refine And.intro ?_ ?_) | (simp only [ints_len]; done) | (simp; done) | omega)))) | ((apply acall (impl_symbolOfTwo _)); (focus (repeat' (first | exact rfl | (refine And.intro ?_ ?_) | (simp only [ints_len]; done) | (simp; done) | omega)))) | ((apply acall (impl_signPower _ _ ?_)); (focus (repeat' (first | exact rfl | (refine And.intro ?_ ?_) | (simp only [ints_len]; done) | (simp; done) | omega)))) | ((apply acall (impl_jacobi _ _ ?_ ?_ ?_)); (focus (repeat' (first | exact rfl | (refine And.intro ?_ ?_) | (simp only [ints_len]; done) | (simp; done) | omega))))) | ((with_reducible refine (?_ : chk _ _ = true)); kernel_rfl) | ((with_reducible refine (?_ : (_ : IntKind) = _)); (with_reducible rfl)) | ((with_reducible refine (?_ : eqC (C.pvw _ _ _) (C.pvw _ _ _))); exact rfl) | ((with_reducible refine (?_ : eqC (C.pv (Value.int IntKind.u64 _)) _)); exact rfl) | ((with_reducible refine (?_ : eqC (C.pv (Value.string _)) _)); exact rfl) | exact trivial)
        · have hm := expo_pos (p := p) (a := y) h2 (by omega)
          have hl := tdiv_less h2 g1 hm
          obtain ⟨e1, e2⟩ := expo_yes ⟨h2, g1, hm⟩
          have wd : wrap64 (y.tdiv p) = y.tdiv p := wrap_small (by omega) (by omega)
          refine ⟨(wrap64 (y.tdiv p), wrap64 (j + 1)), ?_, ?_, none, And.intro rfl (And.intro (by repeat' (first | exact trivial | exact rfl | (refine And.intro ?_ ?_))) (by repeat' (first | exact trivial | exact rfl | (refine And.intro ?_ ?_))))⟩
          · dsimp only
            rw [wd, w1]
            exact ⟨tdiv_ne g1 hm, by omega, by omega, by omega, by rw [← e2]; exact g5⟩
          · dsimp only; rw [w1]; omega
        all_goals (have hyb := hyb (by assumption); subst hyb)
        any_goals (exact (pr_odd hp ‹_›).2)
        all_goals (try rw [show wrap64 (-1) = -1 from wrap_small (by decide) (by decide)])
        any_goals (have e2 : p = 2 := by assumption
                   subst e2
                   rw [i2_eq (u := rest 2 a) (v := rest 2 b) (odd_of ea.2.2.2.2) (odd_of eb.2.2.2.2) (by grind)]; rfl)
        all_goals (have ta : (expo p a).tmod 2 = expo p a % 2 := tmod_nonneg' ea.1
                   have tb : (expo p b).tmod 2 = expo p b % 2 := tmod_nonneg' eb.1
                   have tp : p.tmod 4 = p % 4 := tmod_nonneg' (by omega)
                   rw [ip_eq (pr_odd hp ‹_›).2 (J_or _ _) (J_or _ _) (by grind), hil_p h0 ‹_›])

/-- What the law lets through. -/
noncomputable def hiG (a b p : Int) : Bool := (num a && !decide (a = 0)) && (num b && !decide (b = 0)) && (decide (p = 0) || (num p && prime p))
noncomputable def hiV (a b p : Int) : Int := if hiG a b p then hil a b p else 0
theorem hiG_ok {a b p : Int} (h : hiG a b p = true) : HOk a b p := by
  simp [hiG, num] at h
  exact ⟨by omega, by omega, by omega, by omega, by grind⟩

theorem impl_isPlace (p : Int) : AFun Try.prog 12 [] [I p] (Bo (decide (p = 0) || (num p && prime p))) [] [] := by
  refine afun_intro fn12 rfl rfl (by repeat' (first | exact trivial | (simp; done) | (simp [*]; done) | refine ⟨?_, ?_⟩)) ?_
  unfold ac12
  repeat' (first | ((with_reducible refine (?_ : (_ : Bool) = _)); (with_reducible rfl)) | ((with_reducible refine (?_ : (_ : Nat × Nat) = _)); (with_reducible rfl)) | (with_reducible refine leafRI ?_) | (with_reducible refine leafRB ?_) | (with_reducible refine leafI ?_) | (with_reducible refine leafB ?_) | ((with_reducible refine (?_ : (_ : Int) = _)); (with_reducible rfl)) | ((with_reducible refine (?_ : (_ : List (List Value)) = _)); (with_reducible rfl)) | ((with_reducible refine (?_ : (_ : Int) ≠ 0)); (first | assumption | omega | (simp; done) | (simp only [ints_len] at *; omega) | (simp; omega))) | ((with_reducible refine (?_ : (_ : Int) ≤ _)); (first | assumption | omega | (simp; done) | (simp only [ints_len] at *; omega) | (simp; omega))) | ((with_reducible refine (?_ : (_ : Int) < _)); (first | assumption | omega | (simp; done) | (simp only [ints_len] at *; omega) | (simp; omega))) | ((with_reducible refine (?_ : (_ : Nat) ≤ _)); (first | omega | (simp only [List.length_cons, List.length_nil]; omega) | (simp [ints]; done) | (simp; omega))) | ((with_reducible refine (?_ : (_ : Nat) < _)); (first | omega | (simp only [List.length_cons, List.length_nil]; omega) | (simp [ints]; done) | (simp; omega))) | ((with_reducible refine (?_ : (_ : Nat) = _)); (first | (with_reducible rfl) | (simp; done) | (simp only [fr_len]) | (simp only [ints_len]) | omega | (simp [*]; done))) | (refine And.intro ?_ ?_) | (intro h; first | (exact Bool.noConfusion h) | ((simp only [decide_eq_true_eq, decide_eq_false_iff_not, beq_iff_eq, bne_iff_ne, ne_eq, beq_eq_false_iff_ne, bne_eq_false_iff_eq, Bool.not_eq_true', Bool.not_eq_false', Bool.not_eq_true, Bool.not_eq_false, Int.not_le, Int.not_lt, Bool.and_eq_true, Bool.or_eq_true, Bool.or_eq_false_iff, Bool.and_eq_false_iff] at h); (try (first | (exact Bool.noConfusion h) | (exact (h trivial).elim)))) | skip) | ((refine (?_ : ACall _ _ _ _ _ _ _)); first | ((apply acall (impl_IsPrime _)); (focus (repeat' (first | exact rfl | (refine And.intro ?_ ?_) | (simp only [ints_len]; done) | (simp; done) | omega))))) | ((with_reducible refine (?_ : chk _ _ = true)); kernel_rfl) | ((with_reducible refine (?_ : (_ : IntKind) = _)); (with_reducible rfl)) | ((with_reducible refine (?_ : eqC (C.pvw _ _ _) (C.pvw _ _ _))); exact rfl) | ((with_reducible refine (?_ : eqC (C.pv (Value.int IntKind.u64 _)) _)); exact rfl) | ((with_reducible refine (?_ : eqC (C.pv (Value.string _)) _)); exact rfl) | exact trivial)
  all_goals simp_all

end Go.Proofs.Ytfbadfnhnaaeeaa
