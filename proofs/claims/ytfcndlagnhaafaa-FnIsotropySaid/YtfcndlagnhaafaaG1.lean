/- Matrices: KindOfMatrix, ConjugateMatrix, MatrixOrder. -/
import Derived.Test.YtfcndlagnhaafaaF8
namespace Go.Proofs.Ytfcndlagnhaafaa
open Go.RowKit
set_option linter.unusedSimpArgs false
set_option linter.unusedVariables false
set_option maxRecDepth 100000

abbrev T4 := Int × Int × Int × Int
abbrev MT (m : T4) : V := Ma m.1 m.2.1 m.2.2.1 m.2.2.2
def numT (m : T4) : Bool := num m.1 && num m.2.1 && num m.2.2.1 && num m.2.2.2
/-- The machine's determinant, product, inverse. -/
def dt (p q r s : Int) : Int := wrap64 (wrap64 (p * s) - wrap64 (q * r))
def detT (m : T4) : Int := dt m.1 m.2.1 m.2.2.1 m.2.2.2
def mu (x y u v : Int) : Int := wrap64 (wrap64 (x * u) + wrap64 (y * v))
def mulT (m n : T4) : T4 := (mu m.1 m.2.1 n.1 n.2.2.1, mu m.1 m.2.1 n.2.1 n.2.2.2, mu m.2.2.1 m.2.2.2 n.1 n.2.2.1, mu m.2.2.1 m.2.2.2 n.2.1 n.2.2.2)
def invT (m : T4) : T4 := (wrap64 (detT m * m.2.2.2), wrap64 (wrap64 (-detT m) * m.2.1), wrap64 (wrap64 (-detT m) * m.2.2.1), wrap64 (detT m * m.1))
def prp (m : T4) : Bool := numT m && decide (detT m = 1)
/-- What a proper matrix is. -/
theorem prp_iff {p q r s : Int} : prp (p, q, r, s) = true ↔ ((-1000000 ≤ p ∧ p ≤ 1000000) ∧ (-1000000 ≤ q ∧ q ≤ 1000000) ∧ (-1000000 ≤ r ∧ r ≤ 1000000) ∧ (-1000000 ≤ s ∧ s ≤ 1000000) ∧ p * s - q * r = 1) := by
  have key : (-1000000 ≤ p ∧ p ≤ 1000000) → (-1000000 ≤ q ∧ q ≤ 1000000) → (-1000000 ≤ r ∧ r ≤ 1000000) → (-1000000 ≤ s ∧ s ≤ 1000000) → dt p q r s = p * s - q * r := fun h1 h2 h3 h4 => by
    have e1 := mul_bd (a := p) (b := s) (A := 1000000) (B := 1000000) h1.1 h1.2 h4.1 h4.2
    have e2 := mul_bd (a := q) (b := r) (A := 1000000) (B := 1000000) h2.1 h2.2 h3.1 h3.2
    unfold dt
    rw [wrap_small (n := p * s) (by omega) (by omega), wrap_small (n := q * r) (by omega) (by omega), wrap_small (by omega) (by omega)]
  have hd : detT (p, q, r, s) = dt p q r s := rfl
  simp only [prp, numT, hd, num, Bool.and_eq_true, decide_eq_true_eq]
  constructor
  · rintro ⟨⟨⟨⟨h1, h2⟩, h3⟩, h4⟩, h5⟩
    exact ⟨h1, h2, h3, h4, by rw [← key h1 h2 h3 h4]; exact h5⟩
  · rintro ⟨h1, h2, h3, h4, h5⟩
    exact ⟨⟨⟨⟨h1, h2⟩, h3⟩, h4⟩, by rw [key h1 h2 h3 h4]; exact h5⟩

/-- The kind of a proper matrix. -/
def knd (p q r s : Int) : Int := if q = 0 ∧ r = 0 then 1 else if (p + s).natAbs < 2 then 2 else if (p + s).natAbs = 2 then 3 else 4

theorem central {p q r s : Int} (h : p * s - q * r = 1) (hq : q = 0) (hr : r = 0) : (p = 1 ∧ s = 1) ∨ (p = -1 ∧ s = -1) := by
  subst hq hr
  have h' : p * s = 1 := by omega
  have e1 := congrArg Int.natAbs h'
  rw [Int.natAbs_mul] at e1
  have e2 := Nat.eq_one_of_mul_eq_one_right e1
  rcases (show p = 1 ∨ p = -1 by omega) with e | e
  · subst e; omega
  · subst e; omega

def kdI (m : T4) : Int := if prp m then knd m.1 m.2.1 m.2.2.1 m.2.2.2 else 0

theorem T4eta (m : T4) : (m.1, m.2.1, m.2.2.1, m.2.2.2) = m := rfl
abbrev PM (m : T4) (b : Bool) : V := .tup [(true, [cI m.1, cI m.2.1, cI m.2.2.1, cI m.2.2.2]), (false, [cB b])]
def cjB (m g : T4) : Bool := prp m && prp g && numT (mulT (invT g) m) && numT (mulT (mulT (invT g) m) g)
def cjM (m g : T4) : T4 := if cjB m g then mulT (mulT (invT g) m) g else (0, 0, 0, 0)

/-- The order: 0 if it has none. -/
def moO (m : T4) : Int := if prp m then (if knd m.1 m.2.1 m.2.2.1 m.2.2.2 = 1 then (3 - m.1) / 2 else if knd m.1 m.2.1 m.2.2.1 m.2.2.2 = 2 then (if m.1 + m.2.2.2 = -1 then 3 else if m.1 + m.2.2.2 = 0 then 4 else 6) else 0) else 0

theorem knd_two {p q r s : Int} (h : knd p q r s = 2) : p + s = -1 ∨ p + s = 0 ∨ p + s = 1 := by
  unfold knd at h
  split at h
  · cases h
  · split at h
    · omega
    · split at h <;> cases h
theorem moO_no {m : T4} (h : prp m = false) : moO m = 0 := by simp [moO, h]
theorem moO_c {p q r s : Int} (h : prp (p, q, r, s) = true) (k : knd p q r s = 1) : wrap64 ((wrap64 (3 - p)).tdiv 2) = moO (p, q, r, s) := by
  have h1 := prp_iff.1 h
  have hp : p = 1 ∨ p = -1 := by
    unfold knd at k
    split at k
    · rename_i c; have := central h1.2.2.2.2 c.1 c.2; omega
    · split at k
      · cases k
      · split at k <;> cases k
  simp only [moO, h, if_true, k]
  have w : wrap64 (3 - p) = 3 - p := wrap_small (by omega) (by omega)
  rw [w, tdiv_nonneg' (by omega), wrap_small (by omega) (by omega)]
theorem moO_e {p q r s : Int} (h : prp (p, q, r, s) = true) (k : knd p q r s = 2) : moO (p, q, r, s) = if p + s = -1 then 3 else if p + s = 0 then 4 else 6 := by
  simp [moO, h, k]
theorem moO_o {p q r s : Int} (h : ¬ knd p q r s = 1) (k : ¬ knd p q r s = 2) : moO (p, q, r, s) = 0 := by
  simp [moO, h, k]
theorem row346 {i : Int} {k : List Value → Prop} (h : i = 0 ∨ i = 1 ∨ i = 2) (hk : k [.int .i64 (if i = 0 then 3 else if i = 1 then 4 else 6)]) : ∃ es, [[Value.int .i64 3], [Value.int .i64 4], [Value.int .i64 6]][i.toNat]? = some es ∧ k es := by
  rcases h with rfl | rfl | rfl <;> exact ⟨_, rfl, hk⟩

end Go.Proofs.Ytfcndlagnhaafaa
