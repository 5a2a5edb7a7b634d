/- IsIsotropic. -/
import Derived.Test.YtkadphmllejmdaaH4
namespace Go.Proofs.Ytkadphmllejmdaa
open Go.RowKit
set_option linter.unusedSimpArgs false
set_option linter.unusedVariables false
set_option maxRecDepth 100000

/-- The class of the product of the first j. -/
noncomputable def prC (l : List Int) (p : Int) : Nat → Int
  | 0 => 1
  | j + 1 => clas (prC l p j * clas (l.getD j 0) p) p
theorem prC_bd {l : List Int} {p : Int} (hd : dgn l = true) (pl : p = 0 ∨ (prime p = true ∧ p ≤ 1000000)) : ∀ j, j ≤ l.length → (prC l p j ≠ 0 ∧ (prC l p j).natAbs ≤ 43000000) ∧ ∀ i, i < j → HOk (l.getD i 0) (l.getD i 0) p ∧ HOk (prC l p i * clas (l.getD i 0) p) (prC l p i * clas (l.getD i 0) p) p ∧ (clas (l.getD i 0) p).natAbs ≤ 43000000
  | 0, _ => ⟨by simp [prC], fun i hi => by omega⟩
  | j + 1, h => by
    obtain ⟨ih, ih2⟩ := prC_bd hd pl j (by omega)
    have hn := dgn_num hd j (l[j]'(by omega)) (by simp)
    have hg : l.getD j 0 = l[j]'(by omega) := getD_of (by simp)
    have H1 : HOk (l.getD j 0) (l.getD j 0) p := ⟨by rw [hg]; exact hn.1, by rw [hg]; exact hn.1, by rw [hg]; omega, by rw [hg]; omega, pl⟩
    have hc := clas_ok H1
    have hm : prC l p j * clas (l.getD j 0) p ≠ 0 := fun h => by
      rcases Int.mul_eq_zero.1 h with h | h
      · exact ih.1 h
      · exact hc.1 h
    have hle : (prC l p j * clas (l.getD j 0) p).natAbs ≤ 43000000 * 43000000 := by rw [Int.natAbs_mul]; exact Nat.mul_le_mul ih.2 hc.2
    have H2 : HOk (prC l p j * clas (l.getD j 0) p) (prC l p j * clas (l.getD j 0) p) p := ⟨hm, hm, by omega, by omega, pl⟩
    refine ⟨clas_ok H2, fun i hi => ?_⟩
    by_cases e : i = j
    · subst e; exact ⟨H1, H2, hc.2⟩
    · exact ih2 i (by omega)

def rlB (l : List Int) : Bool := (l.any fun a => decide (0 < a)) && (l.any fun a => decide (a < 0))
theorem any_take_step {l : List Int} {i : Nat} {a : Int} {f : Int → Bool} (h : l[i]? = some a) : (l.take (i + 1)).any f = ((l.take i).any f || f a) := by
  rw [List.take_add_one, h, List.any_append]; simp

theorem rl_no {l : List Int} {b : Int} (hn : ∀ (i : Nat) n, l[i]? = some n → n ≠ 0 ∧ n.natAbs ≤ 1000000) (h : ∀ (j : Nat) a, l[j]? = some a → a.sign = b.sign) : rlB l = false := by
  rw [Bool.eq_false_iff]
  intro hc
  simp only [rlB, Bool.and_eq_true, List.any_eq_true, decide_eq_true_eq] at hc
  obtain ⟨⟨x, x1, x2⟩, ⟨y, y1, y2⟩⟩ := hc
  obtain ⟨i, hi⟩ := List.getElem?_of_mem x1
  obtain ⟨j, hj⟩ := List.getElem?_of_mem y1
  have e1 := h i x hi
  have e2 := h j y hj
  rw [Int.sign_eq_one_of_pos x2] at e1
  rw [Int.sign_eq_neg_one_of_neg y2] at e2
  omega
theorem rl_yes {l : List Int} {i j : Nat} {a b : Int} (hn : ∀ (i : Nat) n, l[i]? = some n → n ≠ 0 ∧ n.natAbs ≤ 1000000) (hi : l[i]? = some a) (hj : l[j]? = some b) (h : ¬ a.sign = b.sign) : rlB l = true := by
  have a0 := (hn i a hi).1
  have b0 := (hn j b hj).1
  simp only [rlB, Bool.and_eq_true, List.any_eq_true, decide_eq_true_eq]
  rcases Int.lt_trichotomy a 0 with ha | ha | ha <;> rcases Int.lt_trichotomy b 0 with hb | hb | hb <;> first | (exact absurd ha a0) | (exact absurd hb b0) | skip
  · rw [Int.sign_eq_neg_one_of_neg ha, Int.sign_eq_neg_one_of_neg hb] at h; exact absurd rfl h
  · exact ⟨⟨b, List.mem_of_getElem? hj, hb⟩, ⟨a, List.mem_of_getElem? hi, ha⟩⟩
  · exact ⟨⟨a, List.mem_of_getElem? hi, ha⟩, ⟨b, List.mem_of_getElem? hj, hb⟩⟩
  · rw [Int.sign_eq_one_of_pos ha, Int.sign_eq_one_of_pos hb] at h; exact absurd rfl h

/-- Isotropic, at 2 or an odd prime, by the class d of the product. -/
noncomputable def isoF (l : List Int) (p d : Int) : Bool := if (l.length : Int) = 1 then false else if (l.length : Int) = 2 then decide (clas (-d) p = 1) else if (l.length : Int) = 3 then decide (hsA l p l.length = hil (-1) (-d) p) else if (l.length : Int) = 4 then (!decide (d = 1) || decide (hsA l p l.length = hil (-1) (-1) p)) else true
noncomputable def iso (l : List Int) (p : Int) : Bool := if p = 0 then rlB l else isoF l p (prC l p l.length)

noncomputable def isV (l : List Int) (p : Int) : Bool := if haG l p then iso l p else false

end Go.Proofs.Ytkadphmllejmdaa
