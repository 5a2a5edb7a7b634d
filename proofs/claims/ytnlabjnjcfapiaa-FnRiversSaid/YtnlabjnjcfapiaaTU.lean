/- Several texts in one: TA, TB, TH. -/
import Derived.Test.YtnlabjnjcfapiaaH6
/-! The river of an indefinite form: equivalent cyclic forms lie in one cycle. -/
namespace Go.Proofs.Ytnlabjnjcfapiaa
open Go.RowKit
set_option linter.unusedSimpArgs false
set_option linter.unusedVariables false
set_option maxRecDepth 100000

/-- A form after a change of variables. -/
def sub3 (f : T3) (p q r s : Int) : T3 := (f.1 * p * p + f.2.1 * p * r + f.2.2 * r * r, 2 * f.1 * p * q + f.2.1 * (p * s + q * r) + 2 * f.2.2 * r * s, f.1 * q * q + f.2.1 * q * s + f.2.2 * s * s)
theorem sub3_dis {D : Int} {f : T3} {p q r s : Int} (hd : p * s - q * r = 1) (h : dis D f) : dis D (sub3 f p q r s) := by
  obtain ⟨a, b, c⟩ := f
  unfold dis at *
  simp only [sub3] at *
  have h2 : (p * s - q * r) * (p * s - q * r) = 1 := by rw [hd]; rfl
  grind
theorem sub3_mul (f : T3) (p q r s p' q' r' s' : Int) : sub3 (sub3 f p q r s) p' q' r' s' = sub3 f (p * p' + q * r') (p * q' + q * s') (r * p' + s * r') (r * q' + s * s') := by
  obtain ⟨a, b, c⟩ := f
  simp only [sub3, Prod.mk.injEq]
  refine ⟨?_, ?_, ?_⟩ <;> grind
theorem sub3_one (f : T3) : sub3 f 1 0 0 1 = f := by
  obtain ⟨a, b, c⟩ := f
  simp only [sub3, Prod.mk.injEq]
  refine ⟨?_, ?_, ?_⟩ <;> grind
theorem sub3_neg (f : T3) (p q r s : Int) : sub3 f (-p) (-q) (-r) (-s) = sub3 f p q r s := by
  obtain ⟨a, b, c⟩ := f
  simp only [sub3, Prod.mk.injEq]
  refine ⟨?_, ?_, ?_⟩ <;> grind
theorem sub3_inv {f : T3} {p q r s : Int} (hd : p * s - q * r = 1) : sub3 (sub3 f p q r s) s (-q) (-r) p = f := by
  rw [sub3_mul]
  have e1 : p * s + q * -r = 1 := by grind
  have e2 : p * -q + q * p = 0 := by grind
  have e3 : r * s + s * -r = 0 := by grind
  have e4 : r * -q + s * p = 1 := by grind
  rw [e1, e2, e3, e4, sub3_one]

/-- The river's step. -/
def rs3 (f : T3) : Int := f.1 + f.2.1 + f.2.2
def Rv (f : T3) : T3 := if rs3 f < 0 then (f.1, f.2.1 + 2 * f.1, rs3 f) else (rs3 f, f.2.1 + 2 * f.2.2, f.2.2)
def Rk (f : T3) : Nat → T3
  | 0 => f
  | k + 1 => Rv (Rk f k)
theorem Rk_s (f : T3) : ∀ k, Rk f (k + 1) = Rk (Rv f) k
  | 0 => rfl
  | k + 1 => by rw [Rk, Rk_s f k]; rfl
theorem Rk_add (f : T3) (m : Nat) : ∀ k, Rk f (m + k) = Rk (Rk f m) k
  | 0 => rfl
  | k + 1 => by rw [← Nat.add_assoc, Rk, Rk_add f m k]; rfl
structure Sm (f : T3) : Prop where
  a : 0 < f.1
  c : f.2.2 < 0
theorem rs_ne {D r : Int} (R : RD D r) {f : T3} (h : dis D f) : rs3 f ≠ 0 := by
  have := (ne_of_dis R (sub3_dis (f := f) (p := 1) (q := 0) (r := 1) (s := 1) (by decide) h)).1
  simpa [sub3, rs3] using this
theorem Rv_neg {f : T3} (h : rs3 f < 0) : Rv f = (f.1, f.2.1 + 2 * f.1, rs3 f) := if_pos h
theorem Rv_pos {f : T3} (h : ¬ rs3 f < 0) : Rv f = (rs3 f, f.2.1 + 2 * f.2.2, f.2.2) := if_neg h
theorem Rv_ok {D r : Int} (R : RD D r) {f : T3} (h : dis D f) (S : Sm f) : dis D (Rv f) ∧ Sm (Rv f) := by
  have h0 := rs_ne R h
  have ha := S.a
  have hc := S.c
  by_cases hr : rs3 f < 0
  · rw [Rv_neg hr]
    refine ⟨?_, ⟨ha, hr⟩⟩
    unfold dis rs3 at *
    dsimp only
    grind
  · rw [Rv_pos hr]
    refine ⟨?_, ⟨by dsimp only; omega, hc⟩⟩
    unfold dis rs3 at *
    dsimp only
    grind

theorem cone_pos {a b c p q r s : Int} (ha : 0 ≤ a) (hb : 0 ≤ b) (hc : 0 ≤ c) (hp : 0 ≤ p) (hr : 0 ≤ r) : 0 ≤ a * p * p + b * p * r + c * r * r := by
  have h1 := Int.mul_nonneg (Int.mul_nonneg ha hp) hp
  have h2 := Int.mul_nonneg (Int.mul_nonneg hb hp) hr
  have h3 := Int.mul_nonneg (Int.mul_nonneg hc hr) hr
  omega

theorem det_cone {p q r s : Int} (hp : 0 ≤ p) (hq : 0 ≤ q) (hr : 0 ≤ r) (hs : 0 ≤ s) (hd : p * s - q * r = 1) : (p = 1 ∧ q = 0 ∧ r = 0 ∧ s = 1) ∨ (r ≤ p ∧ s ≤ q) ∨ (p ≤ r ∧ q ≤ s) := by
  by_cases h1 : r ≤ p <;> by_cases h2 : s ≤ q
  · exact .inr (.inl ⟨h1, h2⟩)
  · by_cases h3 : p ≤ r
    · exact .inr (.inr ⟨h3, by omega⟩)
    have h4 := Int.mul_le_mul (show r + 1 ≤ p by omega) (show q + 1 ≤ s by omega) (by omega) (by omega)
    have h5 : (r + 1) * (q + 1) = q * r + r + q + 1 := by grind
    have h6 : q = 0 := by omega
    have h7 : r = 0 := by omega
    subst h6 h7
    simp only [Int.zero_mul, Int.sub_zero, Int.mul_zero] at hd
    have h8 : p = 1 := by
      have := Int.le_of_dvd (by decide) (⟨s, hd.symm⟩ : p ∣ 1)
      omega
    subst h8
    exact .inl ⟨rfl, rfl, rfl, by omega⟩
  · by_cases h3 : q ≤ s
    · exact .inr (.inr ⟨by omega, h3⟩)
    have h4 := Int.mul_le_mul (show p ≤ r by omega) (show s ≤ q by omega) hs hr
    have h5 : r * q = q * r := Int.mul_comm _ _
    omega
  · exact .inr (.inr ⟨by omega, by omega⟩)

/-- The cone: from a simple form, a positive change of variables that ends at a simple form is a way down the river. -/
theorem cone {D r0 : Int} (R : RD D r0) : ∀ (n : Nat) (f : T3) (p q r s : Int), dis D f → Sm f → 0 ≤ p → 0 ≤ q → 0 ≤ r → 0 ≤ s → p * s - q * r = 1 → p + q + r + s ≤ n →
    (Sm (sub3 f p q r s) → ∃ k, Rk f k = sub3 f p q r s) ∧ ¬ ((sub3 f p q r s).1 < 0 ∧ 0 < (sub3 f p q r s).2.2) := by
  intro n
  induction n with
  | zero =>
    intro f p q r s h S hp hq hr hs hd hn
    have e1 : p = 0 := by omega
    have e2 : q = 0 := by omega
    subst e1 e2
    simp at hd
  | succ n ih =>
    intro f p q r s h S hp hq hr hs hd hn
    have h0 := rs_ne R h
    have ho := Rv_ok R h S
    rcases det_cone hp hq hr hs hd with ⟨rfl, rfl, rfl, rfl⟩ | ⟨h1, h2⟩ | ⟨h1, h2⟩
    · rw [sub3_one]
      exact ⟨fun _ => ⟨0, rfl⟩, fun hx => by have := S.a; omega⟩
    · have hrs : 0 < r + s := by
        refine Int.not_le.1 fun hle => ?_
        have e1 : r = 0 := by omega
        have e2 : s = 0 := by omega
        subst e1 e2
        simp at hd
      have he : sub3 f p q r s = sub3 (f.1, f.2.1 + 2 * f.1, rs3 f) (p - r) (q - s) r s := by
        obtain ⟨a, b, c⟩ := f
        simp only [sub3, rs3, Prod.mk.injEq]
        refine ⟨?_, ?_, ?_⟩ <;> grind
      by_cases hneg : rs3 f < 0
      · have hv : Rv f = (f.1, f.2.1 + 2 * f.1, rs3 f) := if_pos hneg
        rw [he, ← hv]
        have hk := ih (Rv f) (p - r) (q - s) r s ho.1 ho.2 (by omega) (by omega) hr hs (by grind) (by omega)
        refine ⟨fun hS => ?_, hk.2⟩
        obtain ⟨k, hk1⟩ := hk.1 hS
        exact ⟨k + 1, by rw [Rk_s]; exact hk1⟩
      · have hb : 0 ≤ f.2.1 + 2 * f.1 := by
          have := S.a
          have := S.c
          unfold rs3 at *
          omega
        have c1 : 0 ≤ (sub3 f p q r s).1 := by
          rw [he]
          exact cone_pos (q := 0) (s := 0) (Int.le_of_lt S.a) hb (by dsimp only; omega) (by omega) hr
        have c2 : 0 ≤ (sub3 f p q r s).2.2 := by
          rw [he]
          exact cone_pos (q := 0) (s := 0) (Int.le_of_lt S.a) hb (by dsimp only; omega) (by omega) hs
        exact ⟨fun hS => absurd hS.c (by omega), fun hx => by omega⟩
    · have hrs : 0 < p + q := by
        refine Int.not_le.1 fun hle => ?_
        have e1 : p = 0 := by omega
        have e2 : q = 0 := by omega
        subst e1 e2
        simp at hd
      have he : sub3 f p q r s = sub3 (rs3 f, f.2.1 + 2 * f.2.2, f.2.2) p q (r - p) (s - q) := by
        obtain ⟨a, b, c⟩ := f
        simp only [sub3, rs3, Prod.mk.injEq]
        refine ⟨?_, ?_, ?_⟩ <;> grind
      by_cases hneg : rs3 f < 0
      · have hb : 0 ≤ -(f.2.1 + 2 * f.2.2) := by
          have := S.a
          have := S.c
          unfold rs3 at *
          omega
        have hcn := S.c
        have c1 : (sub3 f p q r s).1 ≤ 0 := by
          rw [he]
          have := cone_pos (a := -(rs3 f)) (b := -(f.2.1 + 2 * f.2.2)) (c := -f.2.2) (p := p) (r := r - p) (q := 0) (s := 0) (by omega) hb (by omega) hp (by omega)
          simp only [sub3, Int.neg_mul] at this ⊢
          omega
        have c2 : (sub3 f p q r s).2.2 ≤ 0 := by
          rw [he]
          have := cone_pos (a := -(rs3 f)) (b := -(f.2.1 + 2 * f.2.2)) (c := -f.2.2) (p := q) (r := s - q) (q := 0) (s := 0) (by omega) hb (by omega) hq (by omega)
          simp only [sub3, Int.neg_mul] at this ⊢
          omega
        exact ⟨fun hS => absurd hS.a (by omega), fun hx => by omega⟩
      · have hv : Rv f = (rs3 f, f.2.1 + 2 * f.2.2, f.2.2) := if_neg hneg
        rw [he, ← hv]
        have hk := ih (Rv f) p q (r - p) (s - q) ho.1 ho.2 hp hq (by omega) (by omega) (by grind) (by omega)
        refine ⟨fun hS => ?_, hk.2⟩
        obtain ⟨k, hk1⟩ := hk.1 hS
        exact ⟨k + 1, by rw [Rk_s]; exact hk1⟩

theorem sgn_mul (x y : Int) : (0 ≤ x * y ∧ (0 ≤ x ∧ 0 ≤ y ∨ x ≤ 0 ∧ y ≤ 0)) ∨ (x * y < 0 ∧ (0 ≤ x ∧ y ≤ 0 ∨ x ≤ 0 ∧ 0 ≤ y)) := by
  rcases Int.lt_trichotomy x 0 with a | rfl | a <;> rcases Int.lt_trichotomy y 0 with b | rfl | b
  · have := Int.mul_pos_of_neg_of_neg a b; omega
  · rw [Int.mul_zero]; omega
  · have := Int.mul_neg_of_neg_of_pos a b; omega
  · rw [Int.zero_mul]; omega
  · omega
  · rw [Int.zero_mul]; omega
  · have := Int.mul_neg_of_pos_of_neg a b; omega
  · rw [Int.mul_zero]; omega
  · have := Int.mul_pos a b; omega
theorem sgn_mul' (x y : Int) : (0 < x * y ∧ (0 ≤ x ∧ 0 ≤ y ∨ x ≤ 0 ∧ y ≤ 0)) ∨ (x * y ≤ 0 ∧ (0 ≤ x ∧ y ≤ 0 ∨ x ≤ 0 ∧ 0 ≤ y)) := by
  rcases Int.lt_trichotomy x 0 with a | rfl | a <;> rcases Int.lt_trichotomy y 0 with b | rfl | b
  · have := Int.mul_pos_of_neg_of_neg a b; omega
  · rw [Int.mul_zero]; omega
  · have := Int.mul_neg_of_neg_of_pos a b; omega
  · rw [Int.zero_mul]; omega
  · omega
  · rw [Int.zero_mul]; omega
  · have := Int.mul_neg_of_pos_of_neg a b; omega
  · rw [Int.mul_zero]; omega
  · have := Int.mul_pos a b; omega
theorem det_signs {p q r s : Int} (hd : p * s - q * r = 1) : (0 ≤ p ∧ 0 ≤ q ∧ 0 ≤ r ∧ 0 ≤ s) ∨ (p ≤ 0 ∧ q ≤ 0 ∧ r ≤ 0 ∧ s ≤ 0) ∨ (0 ≤ p ∧ q ≤ 0 ∧ r ≤ 0 ∧ 0 ≤ s) ∨ (p ≤ 0 ∧ 0 ≤ q ∧ 0 ≤ r ∧ s ≤ 0) ∨ (0 ≤ p ∧ s ≤ 0 ∧ 0 ≤ r ∧ q ≤ 0) ∨ (p ≤ 0 ∧ 0 ≤ s ∧ 0 ≤ r ∧ q ≤ 0) ∨ (0 ≤ p ∧ s ≤ 0 ∧ r ≤ 0 ∧ 0 ≤ q) ∨ (p ≤ 0 ∧ 0 ≤ s ∧ r ≤ 0 ∧ 0 ≤ q) := by
  rcases sgn_mul' p s with ⟨h1, a | a⟩ | ⟨h1, a | a⟩ <;> rcases sgn_mul q r with ⟨h2, b | b⟩ | ⟨h2, b | b⟩ <;> first | (exfalso; omega) | skip
  · exact .inl ⟨a.1, b.1, b.2, a.2⟩
  · exact .inr (.inr (.inl ⟨a.1, b.1, b.2, a.2⟩))
  · exact .inr (.inr (.inr (.inl ⟨a.1, b.1, b.2, a.2⟩)))
  · exact .inr (.inl ⟨a.1, b.1, b.2, a.2⟩)
  · exact .inr (.inr (.inr (.inr (.inr (.inr (.inl ⟨a.1, a.2, b.2, b.1⟩))))))
  · exact .inr (.inr (.inr (.inr (.inl ⟨a.1, a.2, b.2, b.1⟩))))
  · exact .inr (.inr (.inr (.inr (.inr (.inr (.inr ⟨a.1, a.2, b.2, b.1⟩))))))
  · exact .inr (.inr (.inr (.inr (.inr (.inl ⟨a.1, a.2, b.2, b.1⟩)))))

/-- Equivalent simple forms lie on one river. -/
theorem river_one {D r0 : Int} (R : RD D r0) {f g : T3} (hf : dis D f) (hg : dis D g) (Sf : Sm f) (Sg : Sm g) {p q r s : Int} (hd : p * s - q * r = 1) (he : g = sub3 f p q r s) : (∃ k, Rk f k = g) ∨ ∃ k, Rk g k = f := by
  have hi : f = sub3 g s (-q) (-r) p := by rw [he, sub3_inv hd]
  have ha := Sg.a
  have hc := Sg.c
  have e1 : g.1 = f.1 * p * p + f.2.1 * p * r + f.2.2 * r * r := by rw [he]; rfl
  have e2 : g.2.2 = f.1 * q * q + f.2.1 * q * s + f.2.2 * s * s := by rw [he]; rfl
  have Sf' : Sm (f.1, -f.2.1, f.2.2) := ⟨Sf.a, Sf.c⟩
  have hf' : dis D (f.1, -f.2.1, f.2.2) := by unfold dis at *; dsimp only; grind
  rcases det_signs hd with ⟨h1, h2, h3, h4⟩ | ⟨h1, h2, h3, h4⟩ | ⟨h1, h2, h3, h4⟩ | ⟨h1, h2, h3, h4⟩ | ⟨h1, h2, h3, h4⟩ | ⟨h1, h2, h3, h4⟩ | ⟨h1, h2, h3, h4⟩ | ⟨h1, h2, h3, h4⟩
  · have := (cone R (p + q + r + s).toNat f p q r s hf Sf h1 h2 h3 h4 hd (by omega)).1
    rw [← he] at this
    exact .inl (this Sg)
  · have := (cone R (-p + -q + -r + -s).toNat f (-p) (-q) (-r) (-s) hf Sf (by omega) (by omega) (by omega) (by omega) (by grind) (by omega)).1
    rw [sub3_neg, ← he] at this
    exact .inl (this Sg)
  · have := (cone R (p + -q + -r + s).toNat g s (-q) (-r) p hg Sg (by omega) (by omega) (by omega) (by omega) (by grind) (by omega)).1
    rw [← hi] at this
    exact .inr (this Sf)
  · have := (cone R (-p + q + r + -s).toNat g (-s) (- -q) (- -r) (-p) hg Sg (by omega) (by omega) (by omega) (by omega) (by grind) (by omega)).1
    rw [sub3_neg, ← hi] at this
    exact .inr (this Sf)
  · refine absurd ?_ (cone R (p + -q + r + -s).toNat f (-q) p (-s) r hf Sf (by omega) (by omega) (by omega) (by omega) (by grind) (by omega)).2
    simp only [sub3]
    constructor <;> grind
  · refine absurd ?_ (cone R (-p + -q + r + s).toNat (f.1, -f.2.1, f.2.2) (-q) (-p) s r hf' Sf' (by omega) (by omega) (by omega) (by omega) (by grind) (by omega)).2
    simp only [sub3]
    constructor <;> grind
  · refine absurd ?_ (cone R (p + q + -r + -s).toNat (f.1, -f.2.1, f.2.2) q p (-s) (-r) hf' Sf' (by omega) (by omega) (by omega) (by omega) (by grind) (by omega)).2
    simp only [sub3]
    constructor <;> grind
  · refine absurd ?_ (cone R (-p + q + -r + s).toNat f q (-p) s (-r) hf Sf (by omega) (by omega) (by omega) (by omega) (by grind) (by omega)).2
    simp only [sub3]
    constructor <;> grind

end Go.Proofs.Ytnlabjnjcfapiaa

/-! The river and the cycle: each step of the cycle is one run of the river. -/
namespace Go.Proofs.Ytnlabjnjcfapiaa
open Go.RowKit
set_option linter.unusedSimpArgs false
set_option linter.unusedVariables false
set_option maxRecDepth 100000

/-- The form as seen with its positive side first. -/
def Ori (f : T3) : T3 := if 0 < f.1 then f else (f.2.2, -f.2.1, f.1)
/-- Before the step: what lies behind. -/
def bk3 (f : T3) : Int := f.1 - f.2.1 + f.2.2
def trn (f : T3) : Prop := (0 < rs3 f ∧ bk3 f < 0) ∨ (rs3 f < 0 ∧ 0 < bk3 f)

theorem run_pos {a b c j n : Int} (hc : c < 0) (h0 : 0 < a) (hn : 0 < a + b * n + c * n * n) (h1 : 0 ≤ j) (h2 : j ≤ n) : 0 < a + b * j + c * j * j := by
  by_cases hz : n = 0
  · have : j = 0 := by omega
    subst this
    simpa using h0
  have hn0 : 0 < n := by omega
  refine Int.not_le.1 fun hle => ?_
  have e : n * (a + b * j + c * j * j) = (n - j) * a + j * (a + b * n + c * n * n) + -c * n * (j * (n - j)) := by grind
  have h3 := Int.mul_nonneg (show 0 ≤ n - j by omega) (Int.le_of_lt h0)
  have h4 := Int.mul_nonneg h1 (Int.le_of_lt hn)
  have h5 := Int.mul_nonneg (Int.mul_nonneg (show 0 ≤ -c by omega) (Int.le_of_lt hn0)) (Int.mul_nonneg h1 (show 0 ≤ n - j by omega))
  have h6 := Int.mul_le_mul_of_nonneg_left hle (Int.le_of_lt hn0)
  rw [Int.mul_zero] at h6
  by_cases hj : j = n
  · subst hj
    have := Int.mul_pos hn0 hn
    omega
  · have := Int.mul_pos (show 0 < n - j by omega) h0
    omega

/-- A run with the negative side fixed. -/
theorem runU {a b c : Int} (h0 : 0 < a) (hc : c < 0) : ∀ (j n : Nat), j ≤ n → 0 < a + b * n + c * n * n → Rk (a, b, c) j = (a + b * j + c * j * j, b + 2 * c * j, c)
  | 0, n, _, _ => by simp [Rk]
  | j + 1, n, hj, hn => by
    have ih := runU h0 hc j n (by omega) hn
    have hp := run_pos (j := ((j : Int) + 1)) hc h0 hn (by omega) (by omega)
    rw [Rk, ih]
    have hs : rs3 (a + b * j + c * j * j, b + 2 * c * j, c) = a + b * ((j : Int) + 1) + c * ((j : Int) + 1) * ((j : Int) + 1) := by
      simp only [rs3]; grind
    rw [Rv_pos (by rw [hs]; omega), hs]
    simp only [Prod.mk.injEq, Int.natCast_add, Int.cast_ofNat_Int]
    refine ⟨trivial, ?_, trivial⟩
    grind
/-- A run with the positive side fixed. -/
theorem runT {a b c : Int} (h0 : 0 < a) (hc : c < 0) : ∀ (j n : Nat), j ≤ n → c + b * n + a * n * n < 0 → Rk (a, b, c) j = (a, b + 2 * a * j, c + b * j + a * j * j)
  | 0, n, _, _ => by simp [Rk]
  | j + 1, n, hj, hn => by
    have ih := runT h0 hc j n (by omega) hn
    have hp := run_pos (a := -c) (b := -b) (c := -a) (n := (n : Int)) (j := ((j : Int) + 1)) (by omega) (by omega) (by grind) (by omega) (by omega)
    rw [Rk, ih]
    have hs : rs3 (a, b + 2 * a * j, c + b * j + a * j * j) = c + b * ((j : Int) + 1) + a * ((j : Int) + 1) * ((j : Int) + 1) := by
      simp only [rs3]; grind
    rw [Rv_neg (by rw [hs]; grind), hs]
    simp only [Prod.mk.injEq, Int.natCast_add, Int.cast_ofNat_Int]
    refine ⟨trivial, ?_, trivial⟩
    grind

theorem cyc_opp {D r : Int} (R : RD D r) {f : T3} (h : dis D f) (hc : cyc r f = true) : (0 < f.1 ∧ f.2.2 < 0) ∨ (f.1 < 0 ∧ 0 < f.2.2) := by
  obtain ⟨a1, a2, a3, a4⟩ := cyc_iff.1 hc
  have hn := ne_of_dis R h
  have l := R.l
  have q0 : f.2.1 * f.2.1 ≤ r * r := Int.mul_le_mul a2 a2 (by omega) R.p
  unfold dis at h
  have hm : 4 * f.1 * f.2.2 < 0 := by omega
  rw [Int.mul_assoc] at hm
  rcases sgn_mul f.1 f.2.2 with ⟨h1, _⟩ | ⟨_, h1⟩ <;> omega
theorem cyc_gap {D r : Int} (R : RD D r) {f : T3} (h : dis D f) (hc : cyc r f = true) : 0 < rs3 f ∧ bk3 f < 0 := by
  obtain ⟨a1, a2, a3, a4⟩ := cyc_iff.1 hc
  have := cyc_c R h hc
  have := cyc_opp R h hc
  unfold rs3 bk3
  omega
theorem Ori_pos {f : T3} (h : 0 < f.1) : Ori f = f := if_pos h
theorem Ori_neg {f : T3} (h : ¬ 0 < f.1) : Ori f = (f.2.2, -f.2.1, f.1) := if_neg h
theorem Ori_ok {D r : Int} (R : RD D r) {f : T3} (h : dis D f) (hc : cyc r f = true) : dis D (Ori f) ∧ Sm (Ori f) ∧ trn (Ori f) := by
  have ho := cyc_opp R h hc
  have hg := cyc_gap R h hc
  by_cases hp : 0 < f.1
  · rw [Ori_pos hp]
    exact ⟨h, ⟨hp, by omega⟩, .inl hg⟩
  · rw [Ori_neg hp]
    refine ⟨?_, ⟨by dsimp only; omega, by dsimp only; omega⟩, .inr ?_⟩
    · unfold dis at *
      dsimp only
      grind
    · unfold rs3 bk3 at *
      dsimp only
      omega
theorem Ori_inj {D r : Int} (R : RD D r) {f g : T3} (hf : dis D f) (cf : cyc r f = true) (hg : dis D g) (cg : cyc r g = true) (he : Ori f = Ori g) : f = g := by
  have h1 := (cyc_iff.1 cf).1
  have h2 := (cyc_iff.1 cg).1
  have h3 := cyc_opp R hf cf
  have h4 := cyc_opp R hg cg
  obtain ⟨a, b, c⟩ := f
  obtain ⟨d, e, k⟩ := g
  dsimp only at h1 h2 h3 h4
  unfold Ori at he
  dsimp only at he
  by_cases hp : 0 < a <;> by_cases hq : 0 < d
  · rw [if_pos hp, if_pos hq] at he
    exact he
  · rw [if_pos hp, if_neg hq] at he
    simp only [Prod.mk.injEq] at he
    omega
  · rw [if_neg hp, if_pos hq] at he
    simp only [Prod.mk.injEq] at he
    omega
  · rw [if_neg hp, if_neg hq] at he
    simp only [Prod.mk.injEq] at he ⊢
    omega

/-- One step of the cycle is one run of the river. -/
theorem cnx_run {D r : Int} (R : RD D r) {f : T3} (h : dis D f) (hc : cyc r f = true) : ∃ n : Nat, 1 ≤ n ∧ Ori (cnx D r f) = Rk (Ori f) n ∧ (∀ j, 0 < j → j < n → ¬ trn (Rk (Ori f) j)) ∧ ∀ j, j < n → (rs3 (Rk (Ori f) j) < 0 ↔ f.1 < 0) := by
  have hd2 := cnx_dis R h
  have hc2 := cyc_nx R h hc
  have ho := cyc_opp R h hc
  have ho2 := cyc_opp R hd2 hc2
  have hb2 := (cyc_iff.1 hc2).1
  have hb := (cyc_iff.1 hc).1
  obtain ⟨e, h1, _⟩ := cnx_ex R h
  rw [h1] at ho2 hb2 ⊢
  clear h1 hd2 hc2 hc h
  obtain ⟨a, b, c⟩ := f
  dsimp only at *
  rcases ho with ⟨p1, p2⟩ | ⟨p1, p2⟩
  · have he : e < 0 := by
      refine Int.not_le.1 fun hle => ?_
      have := Int.mul_le_mul_of_nonneg_left hle (show 0 ≤ -c by omega)
      have e2 : 2 * c * e = -(2 * (-c * e)) := by grind
      omega
    obtain ⟨n, rfl⟩ : ∃ n : Nat, e = -n := ⟨(-e).toNat, by omega⟩
    rw [Ori_pos (show 0 < (a, b, c).1 from p1), Ori_neg (by dsimp only; omega)]
    dsimp only
    have hn : 0 < a + b * n + c * n * n := by
      have : a - b * -(n : Int) + c * -(n : Int) * -(n : Int) = a + b * n + c * n * n := by grind
      omega
    refine ⟨n, by omega, ?_, fun j j1 j2 => ?_, fun j j2 => ?_⟩
    · rw [runU p1 p2 n n (Nat.le_refl _) hn]
      simp only [Prod.mk.injEq]
      refine ⟨?_, ?_, trivial⟩ <;> grind
    · rw [runU p1 p2 j n (by omega) hn]
      have q1 := run_pos (j := (j : Int) + 1) p2 p1 hn (by omega) (by omega)
      have q2 := run_pos (j := (j : Int) - 1) p2 p1 hn (by omega) (by omega)
      have s1 : rs3 (a + b * j + c * j * j, b + 2 * c * j, c) = a + b * ((j : Int) + 1) + c * ((j : Int) + 1) * ((j : Int) + 1) := by simp only [rs3]; grind
      have s2 : bk3 (a + b * j + c * j * j, b + 2 * c * j, c) = a + b * ((j : Int) - 1) + c * ((j : Int) - 1) * ((j : Int) - 1) := by simp only [bk3]; grind
      unfold trn
      rw [s1, s2]
      omega
    · rw [runU p1 p2 j n (by omega) hn]
      have q1 := run_pos (j := (j : Int) + 1) p2 p1 hn (by omega) (by omega)
      have s1 : rs3 (a + b * j + c * j * j, b + 2 * c * j, c) = a + b * ((j : Int) + 1) + c * ((j : Int) + 1) * ((j : Int) + 1) := by simp only [rs3]; grind
      rw [s1]
      omega
  · have he : 0 < e := by
      refine Int.not_le.1 fun hle => ?_
      have := Int.mul_le_mul_of_nonneg_left hle (show 0 ≤ c by omega)
      have e2 : 2 * c * e = 2 * (c * e) := by grind
      omega
    obtain ⟨n, rfl⟩ : ∃ n : Nat, e = n := ⟨e.toNat, by omega⟩
    rw [Ori_neg (show ¬ 0 < (a, b, c).1 by dsimp only; omega), Ori_pos (by dsimp only; omega)]
    dsimp only
    have hn : a + -b * n + c * n * n < 0 := by
      have : a - b * (n : Int) + c * (n : Int) * (n : Int) = a + -b * n + c * n * n := by grind
      omega
    refine ⟨n, by omega, ?_, fun j j1 j2 => ?_, fun j j2 => ?_⟩
    · rw [runT p2 p1 n n (Nat.le_refl _) hn]
      simp only [Prod.mk.injEq]
      refine ⟨trivial, ?_, ?_⟩ <;> grind
    · rw [runT p2 p1 j n (by omega) hn]
      have q1 := run_pos (a := -a) (b := - -b) (c := -c) (n := (n : Int)) (j := (j : Int) + 1) (by omega) (by omega) (by grind) (by omega) (by omega)
      have q2 := run_pos (a := -a) (b := - -b) (c := -c) (n := (n : Int)) (j := (j : Int) - 1) (by omega) (by omega) (by grind) (by omega) (by omega)
      have s1 : rs3 (c, -b + 2 * c * j, a + -b * j + c * j * j) = -(-a + - -b * ((j : Int) + 1) + -c * ((j : Int) + 1) * ((j : Int) + 1)) := by simp only [rs3]; grind
      have s2 : bk3 (c, -b + 2 * c * j, a + -b * j + c * j * j) = -(-a + - -b * ((j : Int) - 1) + -c * ((j : Int) - 1) * ((j : Int) - 1)) := by simp only [bk3]; grind
      unfold trn
      rw [s1, s2]
      omega
    · rw [runT p2 p1 j n (by omega) hn]
      have q1 := run_pos (a := -a) (b := - -b) (c := -c) (n := (n : Int)) (j := (j : Int) + 1) (by omega) (by omega) (by grind) (by omega) (by omega)
      have s1 : rs3 (c, -b + 2 * c * j, a + -b * j + c * j * j) = -(-a + - -b * ((j : Int) + 1) + -c * ((j : Int) + 1) * ((j : Int) + 1)) := by simp only [rs3]; grind
      rw [s1]
      omega

theorem orb_s (D r : Int) (f : T3) : ∀ k, orb D r f (k + 1) = orb D r (cnx D r f) k
  | 0 => rfl
  | k + 1 => by rw [orb, orb_s D r f k]; rfl
/-- Two cyclic forms on one river lie in one cycle. -/
theorem cyc_river {D r : Int} (R : RD D r) {g : T3} (hg : dis D g) (cg : cyc r g = true) : ∀ (k : Nat) (f : T3), dis D f → cyc r f = true → Rk (Ori f) k = Ori g → ∃ j, orb D r f j = g := by
  intro k
  induction k using Nat.strongRecOn with
  | ind k ih =>
    intro f hf cf he
    by_cases h0 : k = 0
    · subst h0
      exact ⟨0, Ori_inj R hf cf hg cg he⟩
    obtain ⟨n, n1, n2, n3, _⟩ := cnx_run R hf cf
    by_cases hk : k < n
    · have := n3 k (by omega) hk
      rw [he] at this
      exact absurd (Ori_ok R hg cg).2.2 this
    · rw [show k = n + (k - n) by omega, Rk_add, ← n2] at he
      obtain ⟨j, hj⟩ := ih (k - n) (by omega) (cnx D r f) (cnx_dis R hf) (cyc_nx R hf cf) he
      exact ⟨j + 1, by rw [orb_s]; exact hj⟩

/-- Properly equivalent. -/
def Eqv (f g : T3) : Prop := ∃ p q r s, p * s - q * r = 1 ∧ g = sub3 f p q r s
theorem Eqv.rfl' (f : T3) : Eqv f f := ⟨1, 0, 0, 1, by decide, (sub3_one f).symm⟩
theorem Eqv.symm {f g : T3} (h : Eqv f g) : Eqv g f := by
  obtain ⟨p, q, r, s, hd, he⟩ := h
  exact ⟨s, -q, -r, p, by grind, by rw [he, sub3_inv hd]⟩
theorem Eqv.trans {f g h : T3} (a : Eqv f g) (b : Eqv g h) : Eqv f h := by
  obtain ⟨p, q, r, s, hd, he⟩ := a
  obtain ⟨p', q', r', s', hd', he'⟩ := b
  refine ⟨_, _, _, _, ?_, by rw [he', he, sub3_mul]⟩
  have : (p * s - q * r) * (p' * s' - q' * r') = 1 := by rw [hd, hd']; rfl
  grind
theorem Eqv.ori (f : T3) : Eqv f (Ori f) := by
  by_cases h : 0 < f.1
  · rw [Ori_pos h]; exact Eqv.rfl' f
  · rw [Ori_neg h]
    refine ⟨0, -1, 1, 0, by decide, ?_⟩
    obtain ⟨a, b, c⟩ := f
    simp only [sub3, Prod.mk.injEq]
    refine ⟨?_, ?_, ?_⟩ <;> grind
theorem Eqv.cnx {D r : Int} (R : RD D r) {f : T3} (h : dis D f) : Eqv f (cnx D r f) := by
  obtain ⟨e, h1, _⟩ := cnx_ex R h
  rw [h1]
  refine ⟨0, -1, 1, e, by omega, ?_⟩
  obtain ⟨a, b, c⟩ := f
  simp only [sub3, Prod.mk.injEq]
  refine ⟨?_, ?_, ?_⟩ <;> grind
theorem Eqv.dis {D : Int} {f g : T3} (h : Eqv f g) (hf : dis D f) : dis D g := by
  obtain ⟨p, q, r, s, hd, he⟩ := h
  rw [he]
  exact sub3_dis hd hf
/-- Equivalent cyclic forms lie in one cycle. -/
theorem cyc_one {D r : Int} (R : RD D r) {f g : T3} (hf : dis D f) (cf : cyc r f = true) (cg : cyc r g = true) (h : Eqv f g) : (∃ j, orb D r f j = g) ∨ ∃ j, orb D r g j = f := by
  have hg := h.dis hf
  have of := Ori_ok R hf cf
  have og := Ori_ok R hg cg
  obtain ⟨p, q, s, t, hd, he⟩ := ((Eqv.ori f).symm.trans h).trans (Eqv.ori g)
  rcases river_one R of.1 og.1 of.2.1 og.2.1 hd he with ⟨k, hk⟩ | ⟨k, hk⟩
  · exact .inl (cyc_river R hg cg k f hf cf hk)
  · exact .inr (cyc_river R hf cf k g hg cg hk)

end Go.Proofs.Ytnlabjnjcfapiaa

/-! The river's period: its runs are the forms of the cycle. -/
namespace Go.Proofs.Ytnlabjnjcfapiaa
open Go.RowKit
set_option linter.unusedSimpArgs false
set_option linter.unusedVariables false
set_option maxRecDepth 100000

theorem sq_nn3 (x : Int) : 0 ≤ x * x := by
  rw [← Int.natAbs_mul_self]; omega
/-! the step back -/
def Rw (f : T3) : T3 := if bk3 f < 0 then (f.1, f.2.1 - 2 * f.1, bk3 f) else (bk3 f, f.2.1 - 2 * f.2.2, f.2.2)
theorem Rw_Rv {D r : Int} (R : RD D r) {f : T3} (h : dis D f) (S : Sm f) : Rw (Rv f) = f := by
  have h0 := rs_ne R h
  have ha := S.a
  have hc := S.c
  obtain ⟨a, b, c⟩ := f
  dsimp only at ha hc
  by_cases hr : rs3 (a, b, c) < 0
  · rw [Rv_neg hr]
    have e : bk3 (a, b + 2 * a, rs3 (a, b, c)) = c := by simp only [bk3, rs3]; omega
    unfold Rw
    dsimp only
    rw [e, if_pos hc]
    simp only [Prod.mk.injEq]
    exact ⟨trivial, by omega, trivial⟩
  · rw [Rv_pos hr]
    have e : bk3 (rs3 (a, b, c), b + 2 * c, c) = a := by simp only [bk3, rs3]; omega
    unfold Rw
    dsimp only
    rw [e, if_neg (by omega)]
    simp only [Prod.mk.injEq]
    exact ⟨trivial, by omega, trivial⟩
theorem Rk_ok {D r : Int} (R : RD D r) {f : T3} (h : dis D f) (S : Sm f) : ∀ k, dis D (Rk f k) ∧ Sm (Rk f k)
  | 0 => ⟨h, S⟩
  | k + 1 => by
    obtain ⟨h1, h2⟩ := Rk_ok R h S k
    exact Rv_ok R h1 h2
theorem Rk_cancel {D r : Int} (R : RD D r) {f g : T3} (hf : dis D f) (Sf : Sm f) (hg : dis D g) (Sg : Sm g) : ∀ k, Rk f k = Rk g k → f = g
  | 0, e => e
  | k + 1, e => by
    obtain ⟨a1, a2⟩ := Rk_ok R hf Sf k
    obtain ⟨b1, b2⟩ := Rk_ok R hg Sg k
    have : Rk f k = Rk g k := by
      have e2 := congrArg Rw e
      rwa [Rk, Rk, Rw_Rv R a1 a2, Rw_Rv R b1 b2] at e2
    exact Rk_cancel R hf Sf hg Sg k this
theorem Rk_per {D r : Int} (R : RD D r) (hD : D ≤ 2000) {f : T3} (h : dis D f) (S : Sm f) : ∃ p, 1 ≤ p ∧ p ≤ 70000 ∧ Rk f p = f ∧ ∀ k, 1 ≤ k → k < p → Rk f k ≠ f := by
  have bd : ∀ i, (1 ≤ (Rk f i).1 ∧ (Rk f i).1 ≤ 500) ∧ (-63 ≤ (Rk f i).2.1 ∧ (Rk f i).2.1 ≤ 63) := fun i => by
    obtain ⟨h1, h2⟩ := Rk_ok R h S i
    have ha := h2.a
    have hc := h2.c
    unfold dis at h1
    generalize Rk f i = g at *
    obtain ⟨a, b, c⟩ := g
    dsimp only at *
    have q1 := Int.mul_le_mul_of_nonneg_left (show 1 ≤ -c by omega) (show 0 ≤ 4 * a by omega)
    have q2 : 4 * a * -c = -(4 * a * c) := by grind
    have q3 := sq_nn3 b
    refine ⟨⟨ha, by omega⟩, ?_⟩
    have q4 : b * b ≤ 2000 := by omega
    constructor
    · refine Int.not_lt.1 fun hlt => ?_
      have := Int.mul_le_mul (show 64 ≤ -b by omega) (show 64 ≤ -b by omega) (by omega) (by omega)
      have : -b * -b = b * b := by grind
      omega
    · refine Int.not_lt.1 fun hlt => ?_
      have := Int.mul_le_mul (show 64 ≤ b by omega) (show 64 ≤ b by omega) (by omega) (by omega)
      omega
  let cd : T3 → Nat := fun g => g.1.toNat * 128 + (g.2.1 + 64).toNat
  obtain ⟨i, j, h1, h2, h3⟩ := php 70000 (fun i => cd (Rk f i)) (fun i _ => by
    have := bd i
    simp only [cd]
    omega)
  have he : Rk f i = Rk f j := by
    obtain ⟨x1, x2⟩ := Rk_ok R h S i
    obtain ⟨y1, y2⟩ := Rk_ok R h S j
    have bi := bd i
    have bj := bd j
    simp only [cd] at h3
    generalize Rk f i = u at *
    generalize Rk f j = v at *
    obtain ⟨a, b, c⟩ := u
    obtain ⟨a', b', c'⟩ := v
    dsimp only at *
    have e1 : a = a' := by omega
    have e2 : b = b' := by omega
    subst e1 e2
    unfold dis at x1 y1
    dsimp only at x1 y1
    have : (4 * a) * c = (4 * a) * c' := by omega
    rw [Int.eq_of_mul_eq_mul_left (by omega) this]
  have hk : Rk f (j - i) = f := by
    obtain ⟨y1, y2⟩ := Rk_ok R h S (j - i)
    refine (Rk_cancel R h S y1 y2 i ?_).symm
    rw [← Rk_add, he]
    congr 1
    omega
  have hmin : ∀ n, (1 ≤ n ∧ n ≤ 70000 ∧ Rk f n = f) → ∃ p, 1 ≤ p ∧ p ≤ 70000 ∧ Rk f p = f ∧ ∀ k, 1 ≤ k → k < p → Rk f k ≠ f := by
    intro n
    induction n using Nat.strongRecOn with
    | ind n ih =>
      rintro ⟨n1, n2, n3⟩
      by_cases hx : ∃ k, 1 ≤ k ∧ k < n ∧ Rk f k = f
      · obtain ⟨k, k1, k2, k3⟩ := hx
        exact ih k k2 ⟨k1, by omega, k3⟩
      · exact ⟨n, n1, n2, n3, fun k k1 k2 k3 => hx ⟨k, k1, k2, k3⟩⟩
  exact hmin (j - i) ⟨by omega, by omega, hk⟩

/-! the runs -/
def lt3 (f : T3) : Bool := decide (0 < rs3 f)
def tr3 (f : T3) : Nat := if lt3 f = lt3 (Rv f) then 0 else 1
def cnR (f : T3) : Nat → Nat
  | 0 => 0
  | k + 1 => cnR f k + tr3 (Rk f k)
theorem cnR_add (f : T3) (m : Nat) : ∀ k, cnR f (m + k) = cnR f m + cnR (Rk f m) k
  | 0 => rfl
  | k + 1 => by rw [← Nat.add_assoc, cnR, cnR, cnR_add f m k, Rk_add, Nat.add_assoc]
theorem cnR_mono (f : T3) {m n : Nat} (h : m ≤ n) : cnR f m ≤ cnR f n := by
  rw [show n = m + (n - m) by omega, cnR_add]
  omega
theorem cnR_shift {f : T3} {P : Nat} (h : Rk f P = f) (k : Nat) : cnR (Rk f k) P = cnR f P := by
  have e1 := cnR_add f k P
  have e2 := cnR_add f P k
  rw [h] at e2
  rw [Nat.add_comm P k] at e2
  omega
theorem tr3_trn {D r : Int} (R : RD D r) {f : T3} (h : dis D f) (S : Sm f) : tr3 f = 1 ↔ trn (Rv f) := by
  have h0 := rs_ne R h
  have h1 := rs_ne R (Rv_ok R h S).1
  have ha := S.a
  have hc := S.c
  unfold tr3 lt3 trn
  by_cases hr : rs3 f < 0
  · have hb : bk3 (Rv f) = f.2.2 := by
      rw [Rv_neg hr]; simp only [bk3, rs3]; omega
    rw [hb, decide_eq_false (show ¬ 0 < rs3 f by omega)]
    by_cases hq : 0 < rs3 (Rv f)
    · rw [decide_eq_true hq]
      simp
      omega
    · rw [decide_eq_false hq]
      simp
      omega
  · have hb : bk3 (Rv f) = f.1 := by
      rw [Rv_pos hr]; simp only [bk3, rs3]; omega
    rw [hb, decide_eq_true (show 0 < rs3 f by omega)]
    by_cases hq : 0 < rs3 (Rv f)
    · rw [decide_eq_true hq]
      simp
      omega
    · rw [decide_eq_false hq]
      simp
      omega
theorem tr3_no {D r : Int} (R : RD D r) {f : T3} (h : dis D f) (S : Sm f) (hn : ¬ trn (Rv f)) : tr3 f = 0 := by
  have := fun e => hn ((tr3_trn R h S).1 e)
  unfold tr3 at *
  split <;> simp_all
/-- A run counts once. -/
theorem run_one {D r : Int} (R : RD D r) {f : T3} (h : dis D f) (hc : cyc r f = true) : ∃ n : Nat, 1 ≤ n ∧ Ori (cnx D r f) = Rk (Ori f) n ∧ (∀ j, 0 < j → j < n → ¬ trn (Rk (Ori f) j)) ∧ cnR (Ori f) n = 1 := by
  obtain ⟨n, n1, n2, n3, _⟩ := cnx_run R h hc
  obtain ⟨o1, o2, _⟩ := Ori_ok R h hc
  refine ⟨n, n1, n2, n3, ?_⟩
  have hz : ∀ j, j < n → cnR (Ori f) j = 0 := by
    intro j
    induction j with
    | zero => intro _; rfl
    | succ j ih =>
      intro hj
      rw [cnR, ih (by omega), Nat.zero_add]
      obtain ⟨y1, y2⟩ := Rk_ok R o1 o2 j
      exact tr3_no R y1 y2 (n3 (j + 1) (by omega) hj)
  obtain ⟨m, rfl⟩ : ∃ m, n = m + 1 := ⟨n - 1, by omega⟩
  rw [cnR, hz m (by omega)]
  obtain ⟨y1, y2⟩ := Rk_ok R o1 o2 m
  rw [(tr3_trn R y1 y2).2]
  show trn (Rk (Ori f) (m + 1))
  rw [← n2]
  exact (Ori_ok R (cnx_dis R h) (cyc_nx R h hc)).2.2
theorem cnt_to {D r : Int} (R : RD D r) {g : T3} (hg : dis D g) (cg : cyc r g = true) : ∀ (k : Nat) (f : T3), dis D f → cyc r f = true → Rk (Ori f) k = Ori g → ∃ j, orb D r f j = g ∧ cnR (Ori f) k = j ∧ (1 ≤ k → 1 ≤ j) := by
  intro k
  induction k using Nat.strongRecOn with
  | ind k ih =>
    intro f hf cf he
    by_cases h0 : k = 0
    · subst h0
      exact ⟨0, Ori_inj R hf cf hg cg he, rfl, fun h => h⟩
    obtain ⟨n, n1, n2, n3, n4⟩ := run_one R hf cf
    by_cases hk : k < n
    · have := n3 k (by omega) hk
      rw [he] at this
      exact absurd (Ori_ok R hg cg).2.2 this
    · have e : k = n + (k - n) := by omega
      rw [e, Rk_add, ← n2] at he
      obtain ⟨j, hj, hj2, _⟩ := ih (k - n) (by omega) (cnx D r f) (cnx_dis R hf) (cyc_nx R hf cf) he
      refine ⟨j + 1, by rw [orb_s]; exact hj, ?_, fun _ => by omega⟩
      rw [e, cnR_add, n4, ← n2, hj2]
      omega
theorem cnt_from {D r : Int} (R : RD D r) : ∀ (j : Nat) (f : T3), dis D f → cyc r f = true → ∃ k, j ≤ k ∧ Rk (Ori f) k = Ori (orb D r f j) ∧ cnR (Ori f) k = j
  | 0, f, _, _ => ⟨0, Nat.le_refl _, rfl, rfl⟩
  | j + 1, f, hf, cf => by
    obtain ⟨n, n1, n2, n3, n4⟩ := run_one R hf cf
    obtain ⟨k, k1, k2, k3⟩ := cnt_from R j (cnx D r f) (cnx_dis R hf) (cyc_nx R hf cf)
    refine ⟨n + k, by omega, ?_, ?_⟩
    · rw [Rk_add, ← n2, k2, orb_s]
    · rw [cnR_add, n4, ← n2, k3]
      omega
/-- The runs of a period are the forms of the cycle. -/
theorem runs_cycle {D r : Int} (R : RD D r) (hD : D ≤ 2000) {f g : T3} (hf : dis D f) (Sf : Sm f) (cg : cyc r g = true) (E : Eqv f g) {P p : Nat} (P1 : 1 ≤ P) (hP : Rk f P = f) (hPm : ∀ k, 1 ≤ k → k < P → Rk f k ≠ f)
    (p1 : 1 ≤ p) (hp : orb D r g p = g) (hpm : ∀ k, 1 ≤ k → k < p → orb D r g k ≠ g) : cnR f P = p := by
  have hg := E.dis hf
  obtain ⟨o1, o2, o3⟩ := Ori_ok R hg cg
  have hfy : ∃ k, Rk f k = Ori g := by
    obtain ⟨a, b, c, d, hd, he⟩ := E.trans (Eqv.ori g)
    rcases river_one R hf o1 Sf o2 hd he with h | ⟨k, hk⟩
    · exact h
    · obtain ⟨Q, q1, _, q3, _⟩ := Rk_per R hD o1 o2
      have hQ : ∀ m, Rk (Ori g) (Q * m) = Ori g := fun m => by
        induction m with
        | zero => rfl
        | succ m ih => rw [Nat.mul_succ, Nat.add_comm, Rk_add, q3, ih]
      have hle : k ≤ Q * k := Nat.le_mul_of_pos_left k q1
      refine ⟨Q * k - k, ?_⟩
      rw [← hk, ← Rk_add, show k + (Q * k - k) = Q * k by omega, hQ]
  obtain ⟨k, hk⟩ := hfy
  have e1 := cnR_shift hP k
  rw [hk] at e1
  rw [← e1]
  have y1 : Rk (Ori g) P = Ori g := by rw [← hk, ← Rk_add, Nat.add_comm, Rk_add, hP]
  have y2 : ∀ m, 1 ≤ m → m < P → Rk (Ori g) m ≠ Ori g := fun m m1 m2 hm => by
    rw [← hk, ← Rk_add, Nat.add_comm, Rk_add] at hm
    obtain ⟨z1, z2⟩ := Rk_ok R hf Sf m
    exact hPm m m1 m2 (Rk_cancel R z1 z2 hf Sf k hm)
  obtain ⟨j, j1, j2, j3⟩ := cnt_to R hg cg P g hg cg y1
  have hj := j3 P1
  have hjp : p ≤ j := by
    refine Nat.not_lt.1 fun hlt => hpm j hj hlt j1
  obtain ⟨N, n1, n2, n3⟩ := cnt_from R p g hg cg
  rw [hp] at n2
  have hN : P ≤ N := Nat.not_lt.1 fun hlt => y2 N (by omega) hlt n2
  have := cnR_mono (Ori g) hN
  omega

end Go.Proofs.Ytnlabjnjcfapiaa
