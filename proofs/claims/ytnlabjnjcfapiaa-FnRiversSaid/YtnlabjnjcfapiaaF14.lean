/- PrincipalResidues. -/
import Derived.Test.YtnlabjnjcfapiaaF13
namespace Go.Proofs.Ytnlabjnjcfapiaa
set_option linter.unusedSimpArgs false
set_option linter.unusedVariables false
open Go.RowKit
set_option maxRecDepth 100000

/-- r is a residue of x with x below X. -/
def prS (n X r : Int) : Prop := ∃ x, 0 ≤ x ∧ x < X ∧ (r = x * x % (4 * n) ∨ r = (x * x + n) % (4 * n))
noncomputable def prB (n r : Int) : Bool := @decide (prS n (2 * n) r ∧ Int.gcd r (4 * n) = 1) (Classical.propDecidable _)
noncomputable def prL (n : Int) : Nat → List Int
  | 0 => []
  | k + 1 => prL n k ++ if prB n k then [(k : Int)] else []
theorem prL_len (n : Int) : ∀ k, (prL n k).length ≤ k
  | 0 => Nat.le_refl _
  | k + 1 => by have := prL_len n k; simp only [prL]; split <;> simp <;> omega
noncomputable def prR (n : Int) : List Int := if decide (1 ≤ n) && decide (n ≤ 500) then prL n (4 * n).toNat else []
theorem mod4 {a r m : Int} (hm : 0 < m) (h0 : 0 ≤ r) (h1 : r < m) : (a - r).tmod m = 0 ↔ r = a % m := by
  have e := tmod_pos (a := a - r) hm
  have e0 := Int.emod_nonneg (a - r) (show m ≠ 0 by omega)
  have key : (a - r) % m = 0 ↔ r = a % m := by
    constructor
    · intro h
      have := Int.emod_emod_of_dvd a (Int.dvd_refl m)
      have h2 := Int.emod_eq_emod_iff_emod_sub_eq_zero.2 h
      rw [Int.emod_eq_of_lt h0 h1] at h2
      exact h2.symm
    · intro h
      apply Int.emod_eq_emod_iff_emod_sub_eq_zero.1
      rw [Int.emod_eq_of_lt h0 h1]; exact h.symm
  rw [← key]
  omega

theorem prS_step {n X r : Int} (h : 0 ≤ X) : prS n (X + 1) r ↔ prS n X r ∨ (r = X * X % (4 * n) ∨ r = (X * X + n) % (4 * n)) := by
  constructor
  · rintro ⟨x, h1, h2, h3⟩
    by_cases e : x = X
    · subst e; exact .inr h3
    · exact .inl ⟨x, h1, by omega, h3⟩
  · rintro (⟨x, h1, h2, h3⟩ | h3)
    · exact ⟨x, h1, by omega, h3⟩
    · exact ⟨X, h, by omega, h3⟩
theorem prS_four {n r : Int} (hn : 0 < n) : prS n (4 * n) r ↔ prS n (2 * n) r := by
  constructor
  · rintro ⟨x, h1, h2, h3⟩
    by_cases e : x < 2 * n
    · exact ⟨x, h1, e, h3⟩
    · refine ⟨x - 2 * n, by omega, by omega, ?_⟩
      have e1 : (x - 2 * n) * (x - 2 * n) = x * x + 4 * n * (n - x) := by grind
      rw [e1, Int.add_mul_emod_self_left, show x * x + 4 * n * (n - x) + n = (x * x + n) + 4 * n * (n - x) by omega, Int.add_mul_emod_self_left]
      exact h3
  · rintro ⟨x, h1, h2, h3⟩
    exact ⟨x, h1, by omega, h3⟩

/-- A slice of truth values. -/
def bools (f : Nat → Bool) (m : Nat) : List (List Value) := (List.range m).map fun r => [.bool (f r)]
@[simp] theorem bools_len (f : Nat → Bool) (m : Nat) : (bools f m).length = m := by simp [bools]
theorem bools_at {f : Nat → Bool} {m : Nat} {i : Int} {k : List Value → Prop} (h : 0 ≤ i ∧ i < m) (hk : k [.bool (f i.toNat)]) : ∃ es, (bools f m)[i.toNat]? = some es ∧ k es := ⟨_, by simp only [bools, List.getElem?_map]; rw [List.getElem?_range (by omega)]; rfl, hk⟩
theorem bools_at2 {f : Nat → Bool} {m j : Nat} {i : Int} {k : List Value → Prop} (h : 0 ≤ i ∧ i < m) (hk : ∀ b, k [.bool b]) : ∃ es, ((bools f m).set j [.bool true])[i.toNat]? = some es ∧ k es := by
  rw [List.getElem?_set]
  by_cases e : j = i.toNat
  · rw [if_pos e, if_pos (by simp; omega)]; exact ⟨_, rfl, hk _⟩
  · rw [if_neg e]; exact bools_at h (hk _)
theorem bools_set {f : Nat → Bool} {m : Nat} {i : Nat} : (bools f m).set i [.bool true] = bools (fun r => f r || decide (r = i)) m := by
  apply List.ext_getElem?
  intro j
  rw [List.getElem?_set]
  by_cases e : i = j
  · subst e
    simp only [bools, if_true, List.length_map, List.length_range, List.getElem?_map]
    by_cases h : i < m
    · rw [if_pos h, List.getElem?_range h]; simp
    · rw [if_neg h, List.getElem?_eq_none (by simp; omega)]; rfl
  · rw [if_neg e]
    simp only [bools, List.getElem?_map]
    by_cases h : j < m
    · rw [List.getElem?_range h]; simp; omega
    · rw [List.getElem?_eq_none (by simp; omega)]; rfl
noncomputable def prH (n X : Int) (r : Nat) : Bool := @decide (prS n X r) (Classical.propDecidable _)

end Go.Proofs.Ytnlabjnjcfapiaa
