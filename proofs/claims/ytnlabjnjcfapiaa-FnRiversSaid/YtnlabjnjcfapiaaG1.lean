/- Matrices: KindOfMatrix, ConjugateMatrix, MatrixOrder. -/
import Derived.Test.YtnlabjnjcfapiaaF8
namespace Go.Proofs.Ytnlabjnjcfapiaa
open Go.RowKit
set_option linter.unusedSimpArgs false
set_option linter.unusedVariables false
set_option maxRecDepth 100000

abbrev T4 := Int × Int × Int × Int
abbrev MT (m : T4) : V := Ma m.1 m.2.1 m.2.2.1 m.2.2.2
def numT (m : T4) : Bool := num m.1 && num m.2.1 && num m.2.2.1 && num m.2.2.2
/-- The machine's determinant, product, inverse. -/
def dt (p q r s : Int) : Int := wrap64 (wrap64 (p * s) - wrap64 (q * r))
def detT (m : T4) : Int := dt m.1 m.2.1 m.2.2.1 m.2.2.2
def mu (x y u v : Int) : Int := wrap64 (wrap64 (x * u) + wrap64 (y * v))
def mulT (m n : T4) : T4 := (mu m.1 m.2.1 n.1 n.2.2.1, mu m.1 m.2.1 n.2.1 n.2.2.2, mu m.2.2.1 m.2.2.2 n.1 n.2.2.1, mu m.2.2.1 m.2.2.2 n.2.1 n.2.2.2)
def invT (m : T4) : T4 := (wrap64 (detT m * m.2.2.2), wrap64 (wrap64 (-detT m) * m.2.1), wrap64 (wrap64 (-detT m) * m.2.2.1), wrap64 (detT m * m.1))
def prp (m : T4) : Bool := numT m && decide (detT m = 1)
/-- What a proper matrix is. -/
theorem prp_iff {p q r s : Int} : prp (p, q, r, s) = true ↔ ((-1000000 ≤ p ∧ p ≤ 1000000) ∧ (-1000000 ≤ q ∧ q ≤ 1000000) ∧ (-1000000 ≤ r ∧ r ≤ 1000000) ∧ (-1000000 ≤ s ∧ s ≤ 1000000) ∧ p * s - q * r = 1) := by
  have key : (-1000000 ≤ p ∧ p ≤ 1000000) → (-1000000 ≤ q ∧ q ≤ 1000000) → (-1000000 ≤ r ∧ r ≤ 1000000) → (-1000000 ≤ s ∧ s ≤ 1000000) → dt p q r s = p * s - q * r := fun h1 h2 h3 h4 => by
    have e1 := mul_bd (a := p) (b := s) (A := 1000000) (B := 1000000) h1.1 h1.2 h4.1 h4.2
    have e2 := mul_bd (a := q) (b := r) (A := 1000000) (B := 1000000) h2.1 h2.2 h3.1 h3.2
    unfold dt
    rw [wrap_small (n := p * s) (by omega) (by omega), wrap_small (n := q * r) (by omega) (by omega), wrap_small (by omega) (by omega)]
  have hd : detT (p, q, r, s) = dt p q r s := rfl
  simp only [prp, numT, hd, num, Bool.and_eq_true, decide_eq_true_eq]
  constructor
  · rintro ⟨⟨⟨⟨h1, h2⟩, h3⟩, h4⟩, h5⟩
    exact ⟨h1, h2, h3, h4, by rw [← key h1 h2 h3 h4]; exact h5⟩
  · rintro ⟨h1, h2, h3, h4, h5⟩
    exact ⟨⟨⟨⟨h1, h2⟩, h3⟩, h4⟩, by rw [key h1 h2 h3 h4]; exact h5⟩


theorem spec_foMul (p q r s a b c d : Int) : AFun Try.prog 39 [] [Ma p q r s, Ma a b c d] (MT (mulT (p, q, r, s) (a, b, c, d))) [] [] := by
  refine afun_intro fn39 rfl rfl (by repeat' (first | exact trivial | (simp; done) | refine ⟨?_, ?_⟩)) ?_
  unfold ac39
  repeat' (first | ((with_reducible refine (?_ : (_ : Bool) = _)); (with_reducible rfl)) | ((with_reducible refine (?_ : (_ : Nat × Nat) = _)); (with_reducible rfl)) | (with_reducible refine leafRI ?_) | (with_reducible refine leafRB ?_) | (with_reducible refine leafI ?_) | (with_reducible refine leafB ?_) | ((with_reducible refine (?_ : (_ : Int) = _)); (with_reducible rfl)) | ((with_reducible refine (?_ : (_ : List (List Value)) = _)); (with_reducible rfl)) | ((with_reducible refine (?_ : (_ : Int) ≠ 0)); (first | assumption | omega | (simp; done) | (simp only [ints_len] at *; omega) | (simp; omega))) | ((with_reducible refine (?_ : (_ : Int) ≤ _)); (first | assumption | omega | (simp; done) | (simp only [ints_len] at *; omega) | (simp; omega))) | ((with_reducible refine (?_ : (_ : Int) < _)); (first | assumption | omega | (simp; done) | (simp only [ints_len] at *; omega) | (simp; omega))) | ((with_reducible refine (?_ : (_ : Nat) ≤ _)); (first | omega | (simp only [List.length_cons, List.length_nil]; omega) | (simp [ints]; done) | (simp; omega))) | ((with_reducible refine (?_ : (_ : Nat) < _)); (first | omega | (simp only [List.length_cons, List.length_nil]; omega) | (simp [ints]; done) | (simp; omega))) | ((with_reducible refine (?_ : (_ : Nat) = _)); (first | (with_reducible rfl) | (simp; done) | (simp only [fr_len]) | (simp only [ints_len]) | omega | (simp [*]; done))) | (refine And.intro ?_ ?_) | (intro h; first | (exact Bool.noConfusion h) | ((simp only [decide_eq_true_eq, decide_eq_false_iff_not, beq_iff_eq, bne_iff_ne, ne_eq, beq_eq_false_iff_ne, bne_eq_false_iff_eq, Bool.not_eq_true', Bool.not_eq_false', Bool.not_eq_true, Bool.not_eq_false, Int.not_le, Int.not_lt, Bool.and_eq_true, Bool.or_eq_true, Bool.or_eq_false_iff, Bool.and_eq_false_iff] at h); (try (first | (exact Bool.noConfusion h) | (exact (h trivial).elim)))) | skip) | ((with_reducible refine (?_ : chk _ _ = true)); kernel_rfl) | ((with_reducible refine (?_ : (_ : IntKind) = _)); (with_reducible rfl)) | ((with_reducible refine (?_ : eqC (C.pvw _ _ _) (C.pvw _ _ _))); exact rfl) | ((with_reducible refine (?_ : eqC (C.pv (Value.int IntKind.u64 _)) _)); exact rfl) | exact trivial)
  all_goals rfl

theorem impl_times (p q r s a b c d : Int) : AFun Try.prog 59 [] [Ma p q r s, Ma a b c d] (MT (mulT (p, q, r, s) (a, b, c, d))) [] [] := by
  refine afun_intro fn59 rfl rfl (by repeat' (first | exact trivial | (simp; done) | refine ⟨?_, ?_⟩)) ?_
  unfold ac59
  repeat' (first | ((with_reducible refine (?_ : (_ : Bool) = _)); (with_reducible rfl)) | ((with_reducible refine (?_ : (_ : Nat × Nat) = _)); (with_reducible rfl)) | (with_reducible refine leafRI ?_) | (with_reducible refine leafRB ?_) | (with_reducible refine leafI ?_) | (with_reducible refine leafB ?_) | ((with_reducible refine (?_ : (_ : Int) = _)); (with_reducible rfl)) | ((with_reducible refine (?_ : (_ : List (List Value)) = _)); (with_reducible rfl)) | ((with_reducible refine (?_ : (_ : Int) ≠ 0)); (first | assumption | omega | (simp; done) | (simp only [ints_len] at *; omega) | (simp; omega))) | ((with_reducible refine (?_ : (_ : Int) ≤ _)); (first | assumption | omega | (simp; done) | (simp only [ints_len] at *; omega) | (simp; omega))) | ((with_reducible refine (?_ : (_ : Int) < _)); (first | assumption | omega | (simp; done) | (simp only [ints_len] at *; omega) | (simp; omega))) | ((with_reducible refine (?_ : (_ : Nat) ≤ _)); (first | omega | (simp only [List.length_cons, List.length_nil]; omega) | (simp [ints]; done) | (simp; omega))) | ((with_reducible refine (?_ : (_ : Nat) < _)); (first | omega | (simp only [List.length_cons, List.length_nil]; omega) | (simp [ints]; done) | (simp; omega))) | ((with_reducible refine (?_ : (_ : Nat) = _)); (first | (with_reducible rfl) | (simp; done) | (simp only [fr_len]) | (simp only [ints_len]) | omega | (simp [*]; done))) | (refine And.intro ?_ ?_) | (intro h; first | (exact Bool.noConfusion h) | ((simp only [decide_eq_true_eq, decide_eq_false_iff_not, beq_iff_eq, bne_iff_ne, ne_eq, beq_eq_false_iff_ne, bne_eq_false_iff_eq, Bool.not_eq_true', Bool.not_eq_false', Bool.not_eq_true, Bool.not_eq_false, Int.not_le, Int.not_lt, Bool.and_eq_true, Bool.or_eq_true, Bool.or_eq_false_iff, Bool.and_eq_false_iff] at h); (try (first | (exact Bool.noConfusion h) | (exact (h trivial).elim)))) | skip) | ((with_reducible refine (?_ : chk _ _ = true)); kernel_rfl) | ((with_reducible refine (?_ : (_ : IntKind) = _)); (with_reducible rfl)) | ((with_reducible refine (?_ : eqC (C.pvw _ _ _) (C.pvw _ _ _))); exact rfl) | ((with_reducible refine (?_ : eqC (C.pv (Value.int IntKind.u64 _)) _)); exact rfl) | exact trivial)
  all_goals rfl

/-- The kind of a proper matrix. -/
def knd (p q r s : Int) : Int := if q = 0 ∧ r = 0 then 1 else if (p + s).natAbs < 2 then 2 else if (p + s).natAbs = 2 then 3 else 4

theorem central {p q r s : Int} (h : p * s - q * r = 1) (hq : q = 0) (hr : r = 0) : (p = 1 ∧ s = 1) ∨ (p = -1 ∧ s = -1) := by
  subst hq hr
  have h' : p * s = 1 := by omega
  have e1 := congrArg Int.natAbs h'
  rw [Int.natAbs_mul] at e1
  have e2 := Nat.eq_one_of_mul_eq_one_right e1
  rcases (show p = 1 ∨ p = -1 by omega) with e | e
  · subst e; omega
  · subst e; omega

def kdI (m : T4) : Int := if prp m then knd m.1 m.2.1 m.2.2.1 m.2.2.2 else 0

theorem T4eta (m : T4) : (m.1, m.2.1, m.2.2.1, m.2.2.2) = m := rfl
abbrev PM (m : T4) (b : Bool) : V := .tup [(true, [cI m.1, cI m.2.1, cI m.2.2.1, cI m.2.2.2]), (false, [cB b])]
def cjB (m g : T4) : Bool := prp m && prp g && numT (mulT (invT g) m) && numT (mulT (mulT (invT g) m) g)
def cjM (m g : T4) : T4 := if cjB m g then mulT (mulT (invT g) m) g else (0, 0, 0, 0)

theorem impl_checked (p q r s : Int) : AFun Try.prog 58 [] [Ma p q r s] (PM (if numT (p, q, r, s) then (p, q, r, s) else (0, 0, 0, 0)) (numT (p, q, r, s))) [] [] := by
  refine afun_intro fn58 rfl rfl (by repeat' (first | exact trivial | (simp; done) | refine ⟨?_, ?_⟩)) ?_
  unfold ac58
  repeat' (first | ((with_reducible refine (?_ : (_ : Bool) = _)); (with_reducible rfl)) | ((with_reducible refine (?_ : (_ : Nat × Nat) = _)); (with_reducible rfl)) | (with_reducible refine leafRI ?_) | (with_reducible refine leafRB ?_) | (with_reducible refine leafI ?_) | (with_reducible refine leafB ?_) | ((with_reducible refine (?_ : (_ : Int) = _)); (with_reducible rfl)) | ((with_reducible refine (?_ : (_ : List (List Value)) = _)); (with_reducible rfl)) | ((with_reducible refine (?_ : (_ : Int) ≠ 0)); (first | assumption | omega | (simp; done) | (simp only [ints_len] at *; omega) | (simp; omega))) | ((with_reducible refine (?_ : (_ : Int) ≤ _)); (first | assumption | omega | (simp; done) | (simp only [ints_len] at *; omega) | (simp; omega))) | ((with_reducible refine (?_ : (_ : Int) < _)); (first | assumption | omega | (simp; done) | (simp only [ints_len] at *; omega) | (simp; omega))) | ((with_reducible refine (?_ : (_ : Nat) ≤ _)); (first | omega | (simp only [List.length_cons, List.length_nil]; omega) | (simp [ints]; done) | (simp; omega))) | ((with_reducible refine (?_ : (_ : Nat) < _)); (first | omega | (simp only [List.length_cons, List.length_nil]; omega) | (simp [ints]; done) | (simp; omega))) | ((with_reducible refine (?_ : (_ : Nat) = _)); (first | (with_reducible rfl) | (simp; done) | (simp only [fr_len]) | (simp only [ints_len]) | omega | (simp [*]; done))) | (refine And.intro ?_ ?_) | (intro h; first | (exact Bool.noConfusion h) | ((simp only [decide_eq_true_eq, decide_eq_false_iff_not, beq_iff_eq, bne_iff_ne, ne_eq, beq_eq_false_iff_ne, bne_eq_false_iff_eq, Bool.not_eq_true', Bool.not_eq_false', Bool.not_eq_true, Bool.not_eq_false, Int.not_le, Int.not_lt, Bool.and_eq_true, Bool.or_eq_true, Bool.or_eq_false_iff, Bool.and_eq_false_iff] at h); (try (first | (exact Bool.noConfusion h) | (exact (h trivial).elim)))) | skip) | ((refine (?_ : ACall _ _ _ _ _ _ _)); first | ((apply acall (impl_IsMatrix _ _ _ _)); (focus (repeat' (first | exact rfl | (refine And.intro ?_ ?_) | (simp only [ints_len]; done) | (simp; done) | omega))))) | ((with_reducible refine (?_ : chk _ _ = true)); kernel_rfl) | ((with_reducible refine (?_ : (_ : IntKind) = _)); (with_reducible rfl)) | ((with_reducible refine (?_ : eqC (C.pvw _ _ _) (C.pvw _ _ _))); exact rfl) | ((with_reducible refine (?_ : eqC (C.pv (Value.int IntKind.u64 _)) _)); exact rfl) | exact trivial)
  all_goals (unfold numT; grind)

/-- The order: 0 if it has none. -/
def moO (m : T4) : Int := if prp m then (if knd m.1 m.2.1 m.2.2.1 m.2.2.2 = 1 then (3 - m.1) / 2 else if knd m.1 m.2.1 m.2.2.1 m.2.2.2 = 2 then (if m.1 + m.2.2.2 = -1 then 3 else if m.1 + m.2.2.2 = 0 then 4 else 6) else 0) else 0

theorem knd_two {p q r s : Int} (h : knd p q r s = 2) : p + s = -1 ∨ p + s = 0 ∨ p + s = 1 := by
  unfold knd at h
  split at h
  · cases h
  · split at h
    · omega
    · split at h <;> cases h
theorem moO_no {m : T4} (h : prp m = false) : moO m = 0 := by simp [moO, h]
theorem moO_c {p q r s : Int} (h : prp (p, q, r, s) = true) (k : knd p q r s = 1) : wrap64 ((wrap64 (3 - p)).tdiv 2) = moO (p, q, r, s) := by
  have h1 := prp_iff.1 h
  have hp : p = 1 ∨ p = -1 := by
    unfold knd at k
    split at k
    · rename_i c; have := central h1.2.2.2.2 c.1 c.2; omega
    · split at k
      · cases k
      · split at k <;> cases k
  simp only [moO, h, if_true, k]
  have w : wrap64 (3 - p) = 3 - p := wrap_small (by omega) (by omega)
  rw [w, tdiv_nonneg' (by omega), wrap_small (by omega) (by omega)]
theorem moO_e {p q r s : Int} (h : prp (p, q, r, s) = true) (k : knd p q r s = 2) : moO (p, q, r, s) = if p + s = -1 then 3 else if p + s = 0 then 4 else 6 := by
  simp [moO, h, k]
theorem moO_o {p q r s : Int} (h : ¬ knd p q r s = 1) (k : ¬ knd p q r s = 2) : moO (p, q, r, s) = 0 := by
  simp [moO, h, k]
theorem row346 {i : Int} {k : List Value → Prop} (h : i = 0 ∨ i = 1 ∨ i = 2) (hk : k [.int .i64 (if i = 0 then 3 else if i = 1 then 4 else 6)]) : ∃ es, [[Value.int .i64 3], [Value.int .i64 4], [Value.int .i64 6]][i.toNat]? = some es ∧ k es := by
  rcases h with rfl | rfl | rfl <;> exact ⟨_, rfl, hk⟩

end Go.Proofs.Ytnlabjnjcfapiaa
