/- RiverForm: the plain laws. -/
import Derived.Test.YtnlabjnjcfapiaaF5
import Derived.Test.YtnlabjnjcfapiaaF8
import Derived.Test.YtnlabjnjcfapiaaG1
import Derived.Test.YtnlabjnjcfapiaaR0
namespace Go.Proofs.Ytnlabjnjcfapiaa
open Go.RowKit
set_option linter.unusedSimpArgs false
set_option linter.unusedVariables false
set_option maxRecDepth 100000
set_option maxHeartbeats 2000000

/-- A form with a river. -/
structure RvI (D : Int) (f : T3) : Prop where
  a : -1000000 ≤ f.1 ∧ f.1 ≤ 1000000
  b : -1000000 ≤ f.2.1 ∧ f.2.1 ≤ 1000000
  c : -1000000 ≤ f.2.2 ∧ f.2.2 ≤ 1000000
  d : f.2.1 * f.2.1 - 4 * f.1 * f.2.2 = D
  d1 : 1 ≤ D
  d2 : D ≤ 2000
def rvB (f : T3) : Int := f.1.natAbs - (f.1.natAbs - f.2.1) % (2 * f.1.natAbs)
def rvT (f : T3) : Int := (rvB f - f.2.1).tdiv (2 * f.1)
def nbF (f : T3) : T3 := (f.1, rvB f, f.1 * rvT f * rvT f + f.2.1 * rvT f + f.2.2)
def swF (f : T3) : T3 := (f.2.2, -f.2.1, f.1)
theorem rvB_ex {f : T3} (ha : f.1 ≠ 0) : 2 * f.1 * rvT f = rvB f - f.2.1 ∧ -(f.1.natAbs : Int) < rvB f ∧ rvB f ≤ f.1.natAbs := by
  have hp : 0 < 2 * (f.1.natAbs : Int) := by omega
  have h1 := Int.emod_nonneg ((f.1.natAbs : Int) - f.2.1) (Int.ne_of_gt hp)
  have h2 := Int.emod_lt_of_pos ((f.1.natAbs : Int) - f.2.1) hp
  have h3 := Int.mul_ediv_add_emod ((f.1.natAbs : Int) - f.2.1) (2 * (f.1.natAbs : Int))
  have hd : 2 * f.1 ∣ rvB f - f.2.1 := by
    have e : rvB f - f.2.1 = 2 * (f.1.natAbs : Int) * (((f.1.natAbs : Int) - f.2.1) / (2 * (f.1.natAbs : Int))) := by unfold rvB; omega
    rw [e]
    rcases Int.natAbs_eq f.1 with h | h
    · rw [← h]; exact Int.dvd_mul_right _ _
    · rw [show (f.1.natAbs : Int) = -f.1 by omega, show 2 * -f.1 = -(2 * f.1) by omega]
      exact Int.dvd_trans ((Int.dvd_neg).2 (Int.dvd_refl _)) (Int.dvd_mul_right _ _)
  refine ⟨?_, by unfold rvB; omega, by unfold rvB; omega⟩
  unfold rvT
  exact Int.mul_tdiv_cancel' hd
theorem sq_le_abs {x a : Int} (h1 : -(a.natAbs : Int) ≤ x) (h2 : x ≤ a.natAbs) : x * x ≤ a * a := by
  have h3 : 0 ≤ ((a.natAbs : Int) - x) * ((a.natAbs : Int) + x) := Int.mul_nonneg (by omega) (by omega)
  have h4 : ((a.natAbs : Int) - x) * ((a.natAbs : Int) + x) = (a.natAbs : Int) * a.natAbs - x * x := by grind
  have h5 : (a.natAbs : Int) * a.natAbs = a * a := Int.natAbs_mul_self
  omega
theorem abs_sq (a : Int) : 0 ≤ a * a := by rw [← Int.natAbs_mul_self]; omega
theorem nbF_dis {D : Int} {f : T3} (I : RvI D f) (ha : f.1 ≠ 0) : 4 * f.1 * (nbF f).2.2 = rvB f * rvB f - D := by
  obtain ⟨h1, _, _⟩ := rvB_ex ha
  have hd := I.d
  unfold nbF
  dsimp only
  have e : rvB f = f.2.1 + 2 * f.1 * rvT f := by omega
  rw [e]
  grind
theorem nbF_dec {D : Int} {f : T3} (I : RvI D f) (ha : f.1 ≠ 0) (h : 0 < f.1 * (nbF f).2.2) : 4 * (nbF f).2.2.natAbs < f.1.natAbs := by
  obtain ⟨_, h2, h3⟩ := rvB_ex ha
  have hd := nbF_dis I ha
  have h4 := sq_le_abs (x := rvB f) (a := f.1) (by omega) h3
  have h5 := I.d1
  generalize (nbF f).2.2 = c at *
  have e1 : 4 * f.1 * c = 4 * (f.1 * c) := by rw [Int.mul_assoc]
  have e2 : (f.1 * c).natAbs = f.1.natAbs * c.natAbs := Int.natAbs_mul _ _
  have e3 : (f.1 * f.1).natAbs = f.1.natAbs * f.1.natAbs := Int.natAbs_mul _ _
  have e4 : f.1.natAbs * (4 * c.natAbs) < f.1.natAbs * f.1.natAbs := by
    have : f.1.natAbs * (4 * c.natAbs) = 4 * (f.1.natAbs * c.natAbs) := by rw [Nat.mul_left_comm]
    omega
  exact Nat.lt_of_mul_lt_mul_left e4
theorem nbF_RvI {D : Int} {f : T3} (I : RvI D f) (ha : f.1 ≠ 0) : RvI D (nbF f) := by
  obtain ⟨h1, h2, h3⟩ := rvB_ex ha
  have hd := nbF_dis I ha
  have h4 := sq_le_abs (x := rvB f) (a := f.1) (by omega) h3
  have h5 := abs_sq (rvB f)
  have h6 := I.d1
  have h7 := I.d2
  have h8 := I.a
  refine ⟨I.a, ?_, ?_, ?_, I.d1, I.d2⟩
  · show -1000000 ≤ rvB f ∧ rvB f ≤ 1000000
    omega
  · generalize (nbF f).2.2 = c at *
    have e1 : 4 * f.1 * c = 4 * (f.1 * c) := by rw [Int.mul_assoc]
    have e2 : (f.1 * c).natAbs = f.1.natAbs * c.natAbs := Int.natAbs_mul _ _
    have e3 : (f.1 * f.1).natAbs = f.1.natAbs * f.1.natAbs := Int.natAbs_mul _ _
    have hc : c.natAbs ≤ 1000000 := by
      refine Nat.not_lt.1 fun hlt => ?_
      have b1 : f.1.natAbs * 1000001 ≤ f.1.natAbs * c.natAbs := Nat.mul_le_mul_left _ hlt
      have b2 : f.1.natAbs * f.1.natAbs ≤ f.1.natAbs * 1000000 := Nat.mul_le_mul_left _ (by omega)
      omega
    omega
  · show rvB f * rvB f - 4 * f.1 * (nbF f).2.2 = D
    omega
theorem swF_RvI {D : Int} {f : T3} (I : RvI D f) : RvI D (swF f) := by
  have h := I.d
  refine ⟨I.c, ?_, I.a, ?_, I.d1, I.d2⟩
  · show -1000000 ≤ -f.2.1 ∧ -f.2.1 ≤ 1000000
    have := I.b
    omega
  · show -f.2.1 * -f.2.1 - 4 * f.2.2 * f.1 = D
    grind
theorem mul_pos_ne {a c : Int} (h : 0 < a * c) : a ≠ 0 := fun e => by rw [e] at h; simp at h
/-- The machine's way there. -/
theorem nb_act {D : Int} {f : T3} (I : RvI D f) (ha : f.1 ≠ 0) : fv f.1 f.2.1 f.2.2 1 0 = f.1 ∧ po f.1 f.2.1 f.2.2 1 0 (rvT f) 1 = rvB f ∧ fv f.1 f.2.1 f.2.2 (rvT f) 1 = (nbF f).2.2 := by
  obtain ⟨h1, h2, h3⟩ := rvB_ex ha
  have J := nbF_RvI I ha
  have ja := I.a
  have jb := I.b
  have jc := I.c
  have jd := J.c
  have hc : (nbF f).2.2 = f.1 * rvT f * rvT f + f.2.1 * rvT f + f.2.2 := rfl
  rw [hc] at jd ⊢
  generalize rvT f = t at *
  generalize rvB f = y at *
  generalize f.1 = a at *
  generalize f.2.1 = b at *
  generalize f.2.2 = c at *
  have h4 : 2 * a * t = 2 * (a * t) := by rw [Int.mul_assoc]
  have at_ : -1000000 ≤ a * t ∧ a * t ≤ 1000000 := by omega
  have ht : -1000000 ≤ t ∧ t ≤ 1000000 := by
    have e1 : (a * t).natAbs = a.natAbs * t.natAbs := Int.natAbs_mul a t
    have e2 : 1 * t.natAbs ≤ a.natAbs * t.natAbs := Nat.mul_le_mul_right _ (by omega)
    omega
  have m1 := mul_bd (a := a * t) (b := t) (A := 1000000) (B := 1000000) at_.1 at_.2 ht.1 ht.2
  have m2 := mul_bd (a := b) (b := t) (A := 1000000) (B := 1000000) jb.1 jb.2 ht.1 ht.2
  refine ⟨?_, ?_, ?_⟩
  · simp only [fv, Int.mul_zero, Int.mul_one, Int.zero_mul]
    simp (disch := omega) only [wrap_small, Int.add_zero, Int.zero_add]
  · simp only [po, Int.mul_zero, Int.mul_one, Int.zero_mul, Int.one_mul]
    simp (disch := omega) only [wrap_small, Int.add_zero, Int.zero_add]
    omega
  · simp only [fv, Int.mul_one]
    simp (disch := omega) only [wrap_small]
theorem sw_act {D : Int} {f : T3} (I : RvI D f) : fv f.1 f.2.1 f.2.2 0 1 = f.2.2 ∧ po f.1 f.2.1 f.2.2 0 1 (-1) 0 = -f.2.1 ∧ fv f.1 f.2.1 f.2.2 (-1) 0 = f.1 := by
  have ja := I.a
  have jb := I.b
  have jc := I.c
  generalize f.1 = a at *
  generalize f.2.1 = b at *
  generalize f.2.2 = c at *
  refine ⟨?_, ?_, ?_⟩
  · simp only [fv, Int.mul_zero, Int.mul_one, Int.zero_mul]
    simp (disch := omega) only [wrap_small, Int.add_zero, Int.zero_add]
  · simp only [po, Int.mul_zero, Int.mul_one, Int.zero_mul, Int.one_mul, Int.mul_neg]
    simp (disch := omega) only [wrap_small, Int.add_zero, Int.zero_add]
    omega
  · simp only [fv, Int.mul_zero, Int.mul_neg, Int.mul_one, Int.neg_neg, Int.neg_mul]
    simp (disch := omega) only [wrap_small, Int.add_zero, Int.zero_add, Int.neg_neg, Int.neg_mul]

def nbM (f : T3) : T4 := (1, rvT f, 0, 1)
def swM4 : T4 := (0, -1, 1, 0)
/-- To the river. -/
def rvS : Nat → T3 → T4 → T3 × T4
  | 0, f, m => (f, m)
  | k + 1, f, m => if 0 < f.1 * f.2.2 then (if 0 < (nbF f).1 * (nbF f).2.2 then rvS k (swF (nbF f)) (mulT (mulT m (nbM f)) swM4) else rvS k (nbF f) (mulT m (nbM f))) else (f, m)
def rvU (f : T3) : Nat := if 0 < f.1 * f.2.2 then f.1.natAbs + 1 else 0
theorem rvU_sw {D : Int} {f : T3} (I : RvI D f) (h : 0 < f.1 * f.2.2) (h2 : 0 < (nbF f).1 * (nbF f).2.2) : rvU (swF (nbF f)) < rvU f := by
  have ha := mul_pos_ne h
  have := nbF_dec I ha h2
  unfold rvU
  rw [if_pos h]
  split
  · show (nbF f).2.2.natAbs + 1 < _
    omega
  · omega
theorem rvU_nb {D : Int} {f : T3} (I : RvI D f) (h : 0 < f.1 * f.2.2) (h2 : ¬ 0 < (nbF f).1 * (nbF f).2.2) : rvU (nbF f) < rvU f := by
  unfold rvU
  rw [if_pos h, if_neg h2]
  omega
theorem rvS_fuel (D : Int) : ∀ (k j : Nat) (f : T3) (m : T4), RvI D f → rvU f ≤ k → rvU f ≤ j → rvS k f m = rvS j f m
  | 0, 0, f, m, _, _, _ => rfl
  | 0, j + 1, f, m, I, h1, h2 => by
    simp only [rvS]
    rw [if_neg fun h => by unfold rvU at h1; rw [if_pos h] at h1; omega]
  | k + 1, 0, f, m, I, h1, h2 => by
    simp only [rvS]
    rw [if_neg fun h => by unfold rvU at h2; rw [if_pos h] at h2; omega]
  | k + 1, j + 1, f, m, I, h1, h2 => by
    simp only [rvS]
    split
    · rename_i h
      have ha := mul_pos_ne h
      have J := nbF_RvI I ha
      split
      · rename_i h3
        have := rvU_sw I h h3
        exact rvS_fuel D k j _ _ (swF_RvI J) (by omega) (by omega)
      · rename_i h3
        have := rvU_nb I h h3
        exact rvS_fuel D k j _ _ J (by omega) (by omega)
    · rfl
def rvL (f : T3) (m : T4) : T3 × T4 := rvS (rvU f) f m
theorem rvL_stop {f : T3} {m : T4} (h : ¬ 0 < f.1 * f.2.2) : rvL f m = (f, m) := by
  unfold rvL rvU
  rw [if_neg h]
  rfl
theorem rvL_sw {D : Int} {f : T3} {m : T4} (I : RvI D f) (h : 0 < f.1 * f.2.2) (h2 : 0 < (nbF f).1 * (nbF f).2.2) : rvL f m = rvL (swF (nbF f)) (mulT (mulT m (nbM f)) swM4) := by
  have hd := rvU_sw I h h2
  have J := nbF_RvI I (mul_pos_ne h)
  obtain ⟨k, hk⟩ : ∃ k, rvU f = k + 1 := ⟨rvU f - 1, by omega⟩
  rw [rvL, hk, rvS, if_pos h, if_pos h2, rvL]
  exact rvS_fuel D _ _ _ _ (swF_RvI J) (by omega) (Nat.le_refl _)
theorem rvL_nb {D : Int} {f : T3} {m : T4} (I : RvI D f) (h : 0 < f.1 * f.2.2) (h2 : ¬ 0 < (nbF f).1 * (nbF f).2.2) : rvL f m = rvL (nbF f) (mulT m (nbM f)) := by
  have hd := rvU_nb I h h2
  have J := nbF_RvI I (mul_pos_ne h)
  obtain ⟨k, hk⟩ : ∃ k, rvU f = k + 1 := ⟨rvU f - 1, by omega⟩
  rw [rvL, hk, rvS, if_pos h, if_neg h2, rvL]
  exact rvS_fuel D _ _ _ _ J (by omega) (Nat.le_refl _)

end Go.Proofs.Ytnlabjnjcfapiaa
