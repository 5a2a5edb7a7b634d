/- Reduction of definite forms: AreEquivalent, ReductionTrail. -/
import Derived.Test.YtnlabjnjcfapiaaF8
import Derived.Test.YtnlabjnjcfapiaaF17
namespace Go.Proofs.Ytnlabjnjcfapiaa
set_option linter.unusedSimpArgs false
set_option linter.unusedVariables false
open Go.RowKit
set_option maxRecDepth 100000
set_option maxHeartbeats 2000000

/-- What is kept while a form is reduced. -/
def gd (f : T3) : Prop := 1 ≤ f.1 ∧ f.1 ≤ 1000000 ∧ -3000000 ≤ f.2.1 ∧ f.2.1 ≤ 3000000 ∧ 0 < 4 * f.1 * f.2.2 - f.2.1 * f.2.1 ∧ 4 * f.1 * f.2.2 - f.2.1 * f.2.1 ≤ 4000000000000
theorem gd_c {a b c : Int} (h : gd (a, b, c)) : 1 ≤ c ∧ c ≤ 3250000000000 ∧ 0 ≤ b * b ∧ b * b ≤ 9000000000000 := by
  obtain ⟨h1, h2, h3, h4, h5, h6⟩ := h
  dsimp only at h1 h2 h3 h4 h5 h6
  have b2 := mul_bd (a := b) (b := b) (A := 3000000) (B := 3000000) (by omega) (by omega) (by omega) (by omega)
  have b0 : 0 ≤ b * b := by rcases Int.le_total 0 b with h | h <;> first | exact Int.mul_nonneg h h | exact Int.mul_nonneg_of_nonpos_of_nonpos h h
  have hp : 0 < 4 * a * c := by omega
  have c1 : 0 < c := by
    rcases Int.lt_or_le 0 c with h | h
    · exact h
    · have := Int.mul_nonpos_of_nonneg_of_nonpos (show 0 ≤ 4 * a by omega) h; omega
  have c2 : 4 * c ≤ 4 * a * c := by
    have := Int.mul_le_mul_of_nonneg_right (show 4 ≤ 4 * a by omega) (show 0 ≤ c by omega); exact this
  exact ⟨by omega, by omega, b0, by omega⟩
theorem dfn_gd {a b c : Int} (h : dfn a b c = true) : gd (a, b, c) := by
  have h1 : ((((-1000000 ≤ a ∧ a ≤ 1000000) ∧ (-1000000 ≤ b ∧ b ≤ 1000000)) ∧ (-1000000 ≤ c ∧ c ≤ 1000000)) ∧ dsc a b c < 0) ∧ 0 < a := by
    simpa [dfn, num] using h
  have e1 := mul_bd (a := b) (b := b) (A := 1000000) (B := 1000000) (by omega) (by omega) (by omega) (by omega)
  have e2 := mul_bd (a := 4 * a) (b := c) (A := 4000000) (B := 1000000) (by omega) (by omega) (by omega) (by omega)
  have e3 : dsc a b c = b * b - 4 * a * c := by
    unfold dsc
    simp (disch := omega) only [wrap_small]
  have b0 : 0 ≤ b * b := by rcases Int.le_total 0 b with h | h <;> first | exact Int.mul_nonneg h h | exact Int.mul_nonneg_of_nonpos_of_nonpos h h
  refine ⟨?_, ?_, ?_, ?_, ?_, ?_⟩ <;> dsimp only <;> omega
/-- The next form. -/
def nxF (f : T3) : T3 := (fv f.1 f.2.1 f.2.2 (stp f.1 f.2.1 f.2.2).1 (stp f.1 f.2.1 f.2.2).2.2.1, po f.1 f.2.1 f.2.2 (stp f.1 f.2.1 f.2.2).1 (stp f.1 f.2.1 f.2.2).2.2.1 (stp f.1 f.2.1 f.2.2).2.1 (stp f.1 f.2.1 f.2.2).2.2.2, fv f.1 f.2.1 f.2.2 (stp f.1 f.2.1 f.2.2).2.1 (stp f.1 f.2.1 f.2.2).2.2.2)
theorem nx_T {a b c n : Int} (h : gd (a, b, c)) (hn : n = (a - b) / (2 * a)) (h0 : ¬ n = 0) : nxF (a, b, c) = (a, b + 2 * a * n, a * n * n + b * n + c) ∧ -a < b + 2 * a * n ∧ b + 2 * a * n ≤ a := by
  have hc := gd_c h
  obtain ⟨h1, h2, h3, h4, h5, h6⟩ := h
  dsimp only at h1 h2 h3 h4 h5 h6
  have e1 := Int.mul_ediv_add_emod (a - b) (2 * a)
  have e2 := Int.emod_nonneg (a - b) (show 2 * a ≠ 0 by omega)
  have e3 := Int.emod_lt_of_pos (a - b) (show 0 < 2 * a by omega)
  rw [← hn] at e1
  have k1 : -a < b + 2 * a * n ∧ b + 2 * a * n ≤ a := by omega
  have k2 : -4000000 ≤ 2 * a * n ∧ 2 * a * n ≤ 4000000 := by omega
  have e4 : 2 * a * n = 2 * (a * n) := by rw [Int.mul_assoc]
  have k3 : -2000000 ≤ a * n ∧ a * n ≤ 2000000 := by omega
  have k4 : -2000000 ≤ n ∧ n ≤ 2000000 := by
    have e := congrArg Int.natAbs (rfl : a * n = a * n)
    rw [Int.natAbs_mul] at e
    have : 1 * n.natAbs ≤ a.natAbs * n.natAbs := Nat.mul_le_mul_right _ (by omega)
    have e' := Int.natAbs_mul a n
    omega
  have k5 := mul_bd (a := a * n) (b := n) (A := 2000000) (B := 2000000) (by omega) (by omega) (by omega) (by omega)
  have k6 := mul_bd (a := b) (b := n) (A := 3000000) (B := 2000000) (by omega) (by omega) (by omega) (by omega)
  refine ⟨?_, k1⟩
  have hs : stp a b c = (1, n, 0, 1) := by rw [stp, if_pos (by rw [← hn]; exact h0), ← hn]
  simp only [nxF, hs, fv, po, Int.mul_one, Int.mul_zero, Int.one_mul, Int.zero_mul]
  simp (disch := omega) only [wrap_small, Int.add_zero, Int.zero_add]
  simp only [Prod.mk.injEq, true_and]
  refine ⟨by omega, trivial⟩
theorem nx_S {a b c : Int} (h : gd (a, b, c)) (hn : (a - b) / (2 * a) = 0) (hr : red a b c = false) : nxF (a, b, c) = (c, -b, a) ∧ (c < a ∨ (c = a ∧ b < 0)) ∧ -a < b ∧ b ≤ a := by
  have hc := gd_c h
  obtain ⟨h1, h2, h3, h4, h5, h6⟩ := h
  dsimp only at h1 h2 h3 h4 h5 h6
  have hk := (norm_iff (b := b) h1).1 hn
  have hs : stp a b c = (0, -1, 1, 0) := by rw [stp, if_neg (by omega), if_neg (by simp [hr])]
  refine ⟨?_, ?_, hk⟩
  · simp only [nxF, hs, fv, po, Int.mul_one, Int.mul_zero, Int.one_mul, Int.zero_mul, Int.mul_neg, Int.neg_neg]
    simp (disch := omega) only [wrap_small, Int.add_zero, Int.zero_add]
    try simp only [Prod.mk.injEq, true_and, and_true]
    try omega
  · simp [red] at hr
    omega
def mr (f : T3) : Nat := if red f.1 f.2.1 f.2.2 then 0 else 3 * f.1.natAbs + (if (f.1 - f.2.1) / (2 * f.1) = 0 then 1 else 2)
theorem nx_gd {a b c : Int} (h : gd (a, b, c)) (hr : red a b c = false) : gd (nxF (a, b, c)) ∧ mr (nxF (a, b, c)) < mr (a, b, c) := by
  have hc := gd_c h
  by_cases hn : (a - b) / (2 * a) = 0
  · obtain ⟨e, k1, k2, k3⟩ := nx_S h hn hr
    obtain ⟨h1, h2, h3, h4, h5, h6⟩ := h
    dsimp only at h1 h2 h3 h4 h5 h6
    rw [e]
    have ec : 4 * c * a = 4 * a * c := by grind
    have eb : -b * -b = b * b := by grind
    refine ⟨⟨by dsimp only; omega, by dsimp only; omega, by dsimp only; omega, by dsimp only; omega, by dsimp only; omega, by dsimp only; omega⟩, ?_⟩
    unfold mr
    dsimp only
    rw [if_neg (show ¬ red a b c = true by simp [hr]), if_pos hn]
    rcases k1 with k | ⟨k, k'⟩
    · split
      · omega
      · split <;> omega
    · rw [if_pos (by simp [red]; omega)]; omega
  · obtain ⟨e, k1, k2⟩ := nx_T h rfl hn
    obtain ⟨h1, h2, h3, h4, h5, h6⟩ := h
    dsimp only at h1 h2 h3 h4 h5 h6
    rw [e]
    generalize hN : (a - b) / (2 * a) = n at *
    have ed : 4 * a * (a * n * n + b * n + c) - (b + 2 * a * n) * (b + 2 * a * n) = 4 * a * c - b * b := by grind
    refine ⟨⟨h1, h2, by dsimp only; omega, by dsimp only; omega, by dsimp only; omega, by dsimp only; omega⟩, ?_⟩
    unfold mr
    dsimp only
    rw [if_neg (show ¬ red a b c = true by simp [hr]), hN, if_neg hn]
    split
    · omega
    · rw [if_pos ((norm_iff h1).2 ⟨k1, k2⟩)]; omega

end Go.Proofs.Ytnlabjnjcfapiaa
