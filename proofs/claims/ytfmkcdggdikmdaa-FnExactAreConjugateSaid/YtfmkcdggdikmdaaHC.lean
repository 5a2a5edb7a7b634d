/- Matrices that are not hyperbolic: the plain laws. -/
import Derived.Test.YtfmkcdggdikmdaaHB
namespace Go.Proofs.Ytfmkcdggdikmdaa
open Go.RowKit
set_option linter.unusedSimpArgs false
set_option linter.unusedVariables false
set_option maxRecDepth 100000
set_option maxHeartbeats 2000000

/-! the reduced form of discriminant -3 or -4 -/
def dsk (f : T3) : Int := 4 * f.1 * f.2.2 - f.2.1 * f.2.1
theorem nx_dsk {a b c : Int} (h : gd (a, b, c)) (hr : red a b c = false) : dsk (nxF (a, b, c)) = dsk (a, b, c) := by
  by_cases hn : (a - b) / (2 * a) = 0
  · obtain ⟨e, _⟩ := nx_S h hn hr
    rw [e]
    unfold dsk
    dsimp only
    grind
  · obtain ⟨e, _⟩ := nx_T h rfl hn
    rw [e]
    unfold dsk
    dsimp only
    grind
theorem rdS_keep : ∀ (k : Nat) (f : T3) (m : T4), gd f → mr f ≤ k → redT (rdS k f m).1 = true ∧ gd (rdS k f m).1 ∧ dsk (rdS k f m).1 = dsk f
  | 0, f, m, h, hk => ⟨mr_zero (f := f) (by omega), h, rfl⟩
  | k + 1, f, m, h, hk => by
    simp only [rdS]
    by_cases hr : redT f = true
    · rw [if_pos hr]; exact ⟨hr, h, rfl⟩
    · rw [if_neg hr]
      have hr' : redT f = false := by simpa using hr
      obtain ⟨g1, g2⟩ := nx_gd' h hr'
      obtain ⟨k1, k2, k3⟩ := rdS_keep k (nxF f) (mulT m (stp f.1 f.2.1 f.2.2)) g1 (by omega)
      exact ⟨k1, k2, by rw [k3]; exact nx_dsk h hr'⟩
theorem rdR_keep {f : T3} (h : gd f) : redT (rdR f).1 = true ∧ gd (rdR f).1 ∧ dsk (rdR f).1 = dsk f := rdS_keep _ _ _ h (Nat.le_refl _)
theorem red_small {f : T3} (hr : redT f = true) (hg : gd f) {k : Int} (hd : dsk f = k) (hk : k = 3 ∨ k = 4) : f = (1, k % 2, 1) := by
  obtain ⟨a, b, c⟩ := f
  obtain ⟨h1, h2, h3, h4, h5, h6⟩ := hg
  simp only [redT, red, Bool.and_eq_true, Bool.or_eq_true, decide_eq_true_eq] at hr
  unfold dsk at hd
  dsimp only at *
  have e1 : a * a ≤ a * c := Int.mul_le_mul_of_nonneg_left (by omega) (by omega)
  have e2 : 0 ≤ (a - b) * (a + b) := Int.mul_nonneg (by omega) (by omega)
  have e3 : (a - b) * (a + b) = a * a - b * b := by grind
  have e4 : 4 * a * c = 4 * (a * c) := by rw [Int.mul_assoc]
  have ha : a = 1 := by
    rcases Int.lt_or_le 1 a with h | h
    · have : 2 * 2 ≤ a * a := Int.mul_le_mul (by omega) (by omega) (by omega) (by omega)
      omega
    · omega
  subst ha
  have hb : b = 0 ∨ b = 1 := by omega
  rcases hb with rfl | rfl
  · have : k = 4 := by omega
    subst this
    have hc : c = 1 := by omega
    subst hc
    rfl
  · have : k = 3 := by omega
    subst this
    have hc : c = 1 := by omega
    subst hc
    rfl
theorem rdR_small {f : T3} (h : gd f) {k : Int} (hd : dsk f = k) (hk : k = 3 ∨ k = 4) : (rdR f).1 = (1, k % 2, 1) := by
  obtain ⟨k1, k2, k3⟩ := rdR_keep h
  exact red_small k1 k2 (k3.trans hd) hk

/-! content and direction -/
def cntF (f : T3) : Int := ((Int.gcd (Int.gcd f.1 f.2.1) f.2.2 : Nat) : Int)
def dirF (f : T3) : Int := if f.1 < 0 ∨ (f.1 = 0 ∧ f.2.2 < 0) then -cntF f else cntF f
theorem cnt_dvd (f : T3) : cntF f ∣ f.1 ∧ cntF f ∣ f.2.1 ∧ cntF f ∣ f.2.2 := by
  unfold cntF
  have h1 : ((Int.gcd ((Int.gcd f.1 f.2.1 : Nat) : Int) f.2.2 : Nat) : Int) ∣ ((Int.gcd f.1 f.2.1 : Nat) : Int) := Int.gcd_dvd_left ..
  exact ⟨Int.dvd_trans h1 (Int.gcd_dvd_left ..), Int.dvd_trans h1 (Int.gcd_dvd_right ..), Int.gcd_dvd_right ..⟩
theorem cnt_one {f : T3} {k : Int} (hd : dsk f = k) (hk : k = 3 ∨ k = 4) : cntF f = 1 := by
  obtain ⟨⟨x, hx⟩, ⟨y, hy⟩, ⟨z, hz⟩⟩ := cnt_dvd f
  have hg : 0 ≤ cntF f := by unfold cntF; omega
  unfold dsk at hd
  generalize cntF f = g at *
  rw [hx, hy, hz] at hd
  have e1 : 4 * (g * x) * (g * z) - g * y * (g * y) = (g * g) * (4 * (x * z) - y * y) := by grind
  rw [e1] at hd
  have hg3 : g ≤ 2 := by
    rcases Int.lt_or_le 2 g with h | h
    · have h9 : 3 * 3 ≤ g * g := Int.mul_le_mul (by omega) (by omega) (by omega) (by omega)
      have hdv : g * g ∣ k := ⟨_, hd.symm⟩
      have := Int.le_of_dvd (by omega) hdv
      omega
    · exact h
  rcases (show g = 0 ∨ g = 1 ∨ g = 2 by omega) with rfl | rfl | rfl
  · omega
  · rfl
  · exfalso
    have e2 : (2 : Int) * 2 * (4 * (x * z) - y * y) = 16 * (x * z) - 4 * (y * y) := by grind
    rw [e2] at hd
    have hy4 : y * y % 4 = 0 ∨ y * y % 4 = 1 := by
      rcases (show y % 4 = 0 ∨ y % 4 = 1 ∨ y % 4 = 2 ∨ y % 4 = 3 by omega) with h | h | h | h <;> rw [Int.mul_emod, h] <;> simp
    omega
theorem dir_small {f : T3} {k : Int} (hd : dsk f = k) (hk : k = 3 ∨ k = 4) : f.1 ≠ 0 ∧ dirF f = f.1.sign := by
  have h1 := cnt_one hd hk
  have h0 : f.1 ≠ 0 := by
    intro h
    unfold dsk at hd
    rw [h] at hd
    have : 0 ≤ f.2.1 * f.2.1 := by rw [← Int.natAbs_mul_self]; omega
    simp only [Int.mul_zero, Int.zero_mul] at hd
    omega
  refine ⟨h0, ?_⟩
  unfold dirF
  rw [h1]
  rcases Int.lt_trichotomy f.1 0 with h | h | h
  · rw [if_pos (Or.inl h), Int.sign_eq_neg_one_of_neg h]
  · exact absurd h h0
  · rw [if_neg (by omega), Int.sign_eq_one_of_pos h]
theorem cnt_zero {f : T3} : cntF f = 0 ↔ f.1 = 0 ∧ f.2.1 = 0 ∧ f.2.2 = 0 := by
  constructor
  · intro h
    obtain ⟨h1, h2, h3⟩ := cnt_dvd f
    rw [h] at h1 h2 h3
    exact ⟨Int.zero_dvd.1 h1, Int.zero_dvd.1 h2, Int.zero_dvd.1 h3⟩
  · rintro ⟨h1, h2, h3⟩
    unfold cntF
    rw [h1, h2, h3]
    rfl
theorem dir_flat {f : T3} (hd : dsk f = 0) : (cntF f = 0 ↔ f.1 + f.2.2 = 0) ∧ 0 ≤ cntF f ∧ dirF f = if f.1 + f.2.2 < 0 then -cntF f else cntF f := by
  have hg : 0 ≤ cntF f := by unfold cntF; omega
  have hz := cnt_zero (f := f)
  have h0 : 0 ≤ f.2.1 * f.2.1 := by rw [← Int.natAbs_mul_self]; omega
  have hb : f.2.1 * f.2.1 = 0 → f.2.1 = 0 := fun h => by rcases Int.mul_eq_zero.1 h with h | h <;> exact h
  unfold dsk at hd
  have e4 : 4 * f.1 * f.2.2 = 4 * (f.1 * f.2.2) := by rw [Int.mul_assoc]
  have hp : 0 ≤ f.1 * f.2.2 := by omega
  have k1 : f.1 < 0 → f.2.2 ≤ 0 := fun h => by
    rcases Int.lt_or_le 0 f.2.2 with h' | h'
    · have := Int.mul_neg_of_neg_of_pos h h'; omega
    · exact h'
  have k2 : 0 < f.1 → 0 ≤ f.2.2 := fun h => by
    rcases Int.lt_or_le f.2.2 0 with h' | h'
    · have := Int.mul_neg_of_pos_of_neg h h'; omega
    · exact h'
  have k3 : f.1 = 0 → f.1 * f.2.2 = 0 := fun h => by rw [h]; simp
  refine ⟨?_, hg, ?_⟩
  · rw [hz]
    constructor
    · rintro ⟨h1, h2, h3⟩; omega
    · intro h
      have h1 : f.1 = 0 := by omega
      have h3 : f.2.2 = 0 := by omega
      have := k3 h1
      exact ⟨h1, hb (by omega), h3⟩
  · unfold dirF
    by_cases hs : f.1 + f.2.2 < 0
    · rw [if_pos hs, if_pos (by omega)]
    · rw [if_neg hs, if_neg (by omega)]
theorem flat_same {f g : T3} (hf : dsk f = 0) (hg : dsk g = 0) : (decide (cntF f = cntF g) && decide ((f.1 + f.2.2).sign = (g.1 + g.2.2).sign)) = decide (dirF f = dirF g) := by
  obtain ⟨a1, a2, a3⟩ := dir_flat hf
  obtain ⟨b1, b2, b3⟩ := dir_flat hg
  rw [a3, b3, Bool.eq_iff_iff]
  simp only [Bool.and_eq_true, decide_eq_true_eq]
  have s1 : ∀ x : Int, x.sign = if x < 0 then -1 else if x = 0 then 0 else 1 := fun x => by
    rcases Int.lt_trichotomy x 0 with h | h | h
    · rw [if_pos h, Int.sign_eq_neg_one_of_neg h]
    · rw [h]; rfl
    · rw [if_neg (by omega), if_neg (by omega), Int.sign_eq_one_of_pos h]
  rw [s1, s1]
  generalize f.1 + f.2.2 = x at *
  generalize g.1 + g.2.2 = y at *
  generalize cntF f = u at *
  generalize cntF g = v at *
  clear a3 b3 s1
  grind

/-! matrices and their fixed forms -/
abbrev trT (m : T4) : Int := m.1 + m.2.2.2
abbrev fxT (m : T4) : T3 := (m.2.2.1, m.2.2.2 - m.1, -m.2.1)
/-- A fixed form of a matrix with the trace t. -/
structure FX (t : Int) (f : T3) : Prop where
  a : -1000000 ≤ f.1 ∧ f.1 ≤ 1000000
  b : -2000000 ≤ f.2.1 ∧ f.2.1 ≤ 2000000
  c : -1000000 ≤ f.2.2 ∧ f.2.2 ≤ 1000000
  d : dsk f = 4 - t * t
theorem FX_of {p q r s : Int} (h : prp (p, q, r, s) = true) : FX (p + s) (r, s - p, -q) := by
  obtain ⟨h1, h2, h3, h4, h5⟩ := prp_iff.1 h
  refine ⟨h3, ⟨by dsimp only; omega, by dsimp only; omega⟩, ⟨by dsimp only; omega, by dsimp only; omega⟩, ?_⟩
  unfold dsk
  dsimp only
  grind
theorem FX.dsc {t : Int} {f : T3} (F : FX t f) : dsc f.1 f.2.1 f.2.2 = t * t - 4 := by
  have d := F.d
  obtain ⟨a, b, c, _⟩ := F
  unfold dsk at d
  have m1 := mul_bd (a := f.2.1) (b := f.2.1) (A := 2000000) (B := 2000000) b.1 b.2 b.1 b.2
  have m2 := mul_bd (a := 4 * f.1) (b := f.2.2) (A := 4000000) (B := 1000000) (by omega) (by omega) c.1 c.2
  unfold Go.Proofs.Ytfmkcdggdikmdaa.dsc
  rw [wrap_small (n := 4 * f.1) (by omega) (by omega), wrap_small (n := f.2.1 * f.2.1) (by omega) (by omega), wrap_small (n := 4 * f.1 * f.2.2) (by omega) (by omega), wrap_small (by omega) (by omega)]
  omega
theorem FX.gd {t : Int} {f : T3} (F : FX t f) (h : 0 < f.1) (ht : dsk f = 3 ∨ dsk f = 4) : gd f := by
  obtain ⟨a, b, c, _⟩ := F
  unfold dsk at ht
  exact ⟨by omega, by omega, by omega, by omega, by omega, by omega⟩
theorem FX.neg {t : Int} {f : T3} (F : FX t f) : FX t (-f.1, -f.2.1, -f.2.2) := by
  have d := F.d
  obtain ⟨a, b, c, _⟩ := F
  refine ⟨⟨by dsimp only; omega, by dsimp only; omega⟩, ⟨by dsimp only; omega, by dsimp only; omega⟩, ⟨by dsimp only; omega, by dsimp only; omega⟩, ?_⟩
  unfold dsk at d ⊢
  dsimp only
  grind

end Go.Proofs.Ytfmkcdggdikmdaa
