/- HasseInvariant, IsIsotropic. -/
import Derived.Test.YtkadphmllejmdaaH3
import Derived.Test.YtkadphmllejmdaaG2
namespace Go.Proofs.Ytkadphmllejmdaa
open Go.RowKit
set_option linter.unusedSimpArgs false
set_option linter.unusedVariables false
set_option maxRecDepth 100000

noncomputable def dgn (l : List Int) : Bool := (l.all fun n => num n && !decide (n = 0)) && (decide (1 ≤ l.length) && decide (l.length ≤ 8))
theorem dgn_len {l : List Int} (h : dgn l = true) : 1 ≤ l.length ∧ l.length ≤ 8 := by
  unfold dgn at h; simp only [Bool.and_eq_true, decide_eq_true_eq] at h; exact h.2
theorem dgn_num {l : List Int} (h : dgn l = true) : ∀ (i : Nat) n, l[i]? = some n → n ≠ 0 ∧ n.natAbs ≤ 1000000 := fun i n hn => by
  unfold dgn at h; simp only [Bool.and_eq_true] at h
  have := List.all_eq_true.1 h.1 n (List.mem_of_getElem? hn)
  simp [num] at this
  omega

/-- The product of the symbols of (a) with the first j of l; of all pairs below i. -/
noncomputable def hsR (l : List Int) (p a : Int) : Nat → Int
  | 0 => 1
  | j + 1 => hsR l p a j * hil a (l.getD j 0) p
noncomputable def hsA (l : List Int) (p : Int) : Nat → Int
  | 0 => 1
  | i + 1 => hsA l p i * hsR l p (l.getD i 0) i
theorem hil_or {a b p : Int} : hil a b p = 1 ∨ hil a b p = -1 ∨ hil a b p = 0 := by
  unfold hil
  split
  · split <;> simp
  split
  · rcases hS_or (hO (rest p a) * hO (rest p b) + expo p a * hE (rest p b) + expo p b * hE (rest p a)) with e | e <;> simp [e]
  · have s1 := hS_or (expo p a * expo p b * (p - 1) / 2)
    have s2 : (if expo p a % 2 = 1 then J (rest p b) p else 1) = 1 ∨ (if expo p a % 2 = 1 then J (rest p b) p else 1) = -1 ∨ (if expo p a % 2 = 1 then J (rest p b) p else 1) = 0 := by
      split
      · exact J_or _ _
      · simp
    have s3 : (if expo p b % 2 = 1 then J (rest p a) p else 1) = 1 ∨ (if expo p b % 2 = 1 then J (rest p a) p else 1) = -1 ∨ (if expo p b % 2 = 1 then J (rest p a) p else 1) = 0 := by
      split
      · exact J_or _ _
      · simp
    exact (sgn_mul3 (sgn_mul s1 s2).2 s3).2
theorem hsR_or (l : List Int) (p a : Int) : ∀ j, hsR l p a j = 1 ∨ hsR l p a j = -1 ∨ hsR l p a j = 0
  | 0 => .inl rfl
  | j + 1 => (sgn_mul3 (hsR_or l p a j) hil_or).2
theorem hsA_or (l : List Int) (p : Int) : ∀ j, hsA l p j = 1 ∨ hsA l p j = -1 ∨ hsA l p j = 0
  | 0 => .inl rfl
  | j + 1 => (sgn_mul3 (hsA_or l p j) (hsR_or l p _ j)).2
theorem getD_of {l : List Int} {i : Nat} {n : Int} (h : l[i]? = some n) : l.getD i 0 = n := by simp [List.getD_eq_getElem?_getD, h]

theorem hs_step {l : List Int} {p a h : Int} {i j : Nat} (hh : h = hil a (l.getD j 0) p) : wrap64 (hsA l p i * hsR l p a j * h) = hsA l p i * hsR l p a (j + 1) := by
  subst hh
  have h1 := sgn_mul3 (hsA_or l p i) (hsR_or l p a j)
  rw [(sgn_mul3 h1.2 hil_or).1, hsR, Int.mul_assoc]

noncomputable def haG (l : List Int) (p : Int) : Bool := dgn l && plc p
noncomputable def haV (l : List Int) (p : Int) : Int := if haG l p then hsA l p l.length else 0

end Go.Proofs.Ytkadphmllejmdaa
