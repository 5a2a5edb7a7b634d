/- Several texts in one: TA, TB, TC, W0, TD. -/
import Derived.Test.YtdgfnmkiabjfnaaH6
import Derived.Test.YtdgfnmkiabjfnaaHZ
import Derived.Test.YtdgfnmkiabjfnaaF1
import Derived.Test.YtdgfnmkiabjfnaaQA
import Derived.Test.YtdgfnmkiabjfnaaG1
/-! The river of an indefinite form: equivalent cyclic forms lie in one cycle. -/
namespace Go.Proofs.Ytdgfnmkiabjfnaa
open Go.RowKit
set_option linter.unusedSimpArgs false
set_option linter.unusedVariables false
set_option maxRecDepth 100000

/-- A form after a change of variables. -/
def sub3 (f : T3) (p q r s : Int) : T3 := (f.1 * p * p + f.2.1 * p * r + f.2.2 * r * r, 2 * f.1 * p * q + f.2.1 * (p * s + q * r) + 2 * f.2.2 * r * s, f.1 * q * q + f.2.1 * q * s + f.2.2 * s * s)
theorem sub3_dis {D : Int} {f : T3} {p q r s : Int} (hd : p * s - q * r = 1) (h : dis D f) : dis D (sub3 f p q r s) := by
  obtain ⟨a, b, c⟩ := f
  unfold dis at *
  simp only [sub3] at *
  have h2 : (p * s - q * r) * (p * s - q * r) = 1 := by rw [hd]; rfl
  grind
theorem sub3_mul (f : T3) (p q r s p' q' r' s' : Int) : sub3 (sub3 f p q r s) p' q' r' s' = sub3 f (p * p' + q * r') (p * q' + q * s') (r * p' + s * r') (r * q' + s * s') := by
  obtain ⟨a, b, c⟩ := f
  simp only [sub3, Prod.mk.injEq]
  refine ⟨?_, ?_, ?_⟩ <;> grind
theorem sub3_one (f : T3) : sub3 f 1 0 0 1 = f := by
  obtain ⟨a, b, c⟩ := f
  simp only [sub3, Prod.mk.injEq]
  refine ⟨?_, ?_, ?_⟩ <;> grind
theorem sub3_neg (f : T3) (p q r s : Int) : sub3 f (-p) (-q) (-r) (-s) = sub3 f p q r s := by
  obtain ⟨a, b, c⟩ := f
  simp only [sub3, Prod.mk.injEq]
  refine ⟨?_, ?_, ?_⟩ <;> grind
theorem sub3_inv {f : T3} {p q r s : Int} (hd : p * s - q * r = 1) : sub3 (sub3 f p q r s) s (-q) (-r) p = f := by
  rw [sub3_mul]
  have e1 : p * s + q * -r = 1 := by grind
  have e2 : p * -q + q * p = 0 := by grind
  have e3 : r * s + s * -r = 0 := by grind
  have e4 : r * -q + s * p = 1 := by grind
  rw [e1, e2, e3, e4, sub3_one]

/-- The river's step. -/
def rs3 (f : T3) : Int := f.1 + f.2.1 + f.2.2
def Rv (f : T3) : T3 := if rs3 f < 0 then (f.1, f.2.1 + 2 * f.1, rs3 f) else (rs3 f, f.2.1 + 2 * f.2.2, f.2.2)
def Rk (f : T3) : Nat → T3
  | 0 => f
  | k + 1 => Rv (Rk f k)
theorem Rk_s (f : T3) : ∀ k, Rk f (k + 1) = Rk (Rv f) k
  | 0 => rfl
  | k + 1 => by rw [Rk, Rk_s f k]; rfl
theorem Rk_add (f : T3) (m : Nat) : ∀ k, Rk f (m + k) = Rk (Rk f m) k
  | 0 => rfl
  | k + 1 => by rw [← Nat.add_assoc, Rk, Rk_add f m k]; rfl
structure Sm (f : T3) : Prop where
  a : 0 < f.1
  c : f.2.2 < 0
theorem rs_ne {D r : Int} (R : RD D r) {f : T3} (h : dis D f) : rs3 f ≠ 0 := by
  have := (ne_of_dis R (sub3_dis (f := f) (p := 1) (q := 0) (r := 1) (s := 1) (by decide) h)).1
  simpa [sub3, rs3] using this
theorem Rv_neg {f : T3} (h : rs3 f < 0) : Rv f = (f.1, f.2.1 + 2 * f.1, rs3 f) := if_pos h
theorem Rv_pos {f : T3} (h : ¬ rs3 f < 0) : Rv f = (rs3 f, f.2.1 + 2 * f.2.2, f.2.2) := if_neg h
theorem Rv_ok {D r : Int} (R : RD D r) {f : T3} (h : dis D f) (S : Sm f) : dis D (Rv f) ∧ Sm (Rv f) := by
  have h0 := rs_ne R h
  have ha := S.a
  have hc := S.c
  by_cases hr : rs3 f < 0
  · rw [Rv_neg hr]
    refine ⟨?_, ⟨ha, hr⟩⟩
    unfold dis rs3 at *
    dsimp only
    grind
  · rw [Rv_pos hr]
    refine ⟨?_, ⟨by dsimp only; omega, hc⟩⟩
    unfold dis rs3 at *
    dsimp only
    grind

theorem cone_pos {a b c p q r s : Int} (ha : 0 ≤ a) (hb : 0 ≤ b) (hc : 0 ≤ c) (hp : 0 ≤ p) (hr : 0 ≤ r) : 0 ≤ a * p * p + b * p * r + c * r * r := by
  have h1 := Int.mul_nonneg (Int.mul_nonneg ha hp) hp
  have h2 := Int.mul_nonneg (Int.mul_nonneg hb hp) hr
  have h3 := Int.mul_nonneg (Int.mul_nonneg hc hr) hr
  omega

theorem det_cone {p q r s : Int} (hp : 0 ≤ p) (hq : 0 ≤ q) (hr : 0 ≤ r) (hs : 0 ≤ s) (hd : p * s - q * r = 1) : (p = 1 ∧ q = 0 ∧ r = 0 ∧ s = 1) ∨ (r ≤ p ∧ s ≤ q) ∨ (p ≤ r ∧ q ≤ s) := by
  by_cases h1 : r ≤ p <;> by_cases h2 : s ≤ q
  · exact .inr (.inl ⟨h1, h2⟩)
  · by_cases h3 : p ≤ r
    · exact .inr (.inr ⟨h3, by omega⟩)
    have h4 := Int.mul_le_mul (show r + 1 ≤ p by omega) (show q + 1 ≤ s by omega) (by omega) (by omega)
    have h5 : (r + 1) * (q + 1) = q * r + r + q + 1 := by grind
    have h6 : q = 0 := by omega
    have h7 : r = 0 := by omega
    subst h6 h7
    simp only [Int.zero_mul, Int.sub_zero, Int.mul_zero] at hd
    have h8 : p = 1 := by
      have := Int.le_of_dvd (by decide) (⟨s, hd.symm⟩ : p ∣ 1)
      omega
    subst h8
    exact .inl ⟨rfl, rfl, rfl, by omega⟩
  · by_cases h3 : q ≤ s
    · exact .inr (.inr ⟨by omega, h3⟩)
    have h4 := Int.mul_le_mul (show p ≤ r by omega) (show s ≤ q by omega) hs hr
    have h5 : r * q = q * r := Int.mul_comm _ _
    omega
  · exact .inr (.inr ⟨by omega, by omega⟩)

/-- The cone: from a simple form, a positive change of variables that ends at a simple form is a way down the river. -/
theorem cone {D r0 : Int} (R : RD D r0) : ∀ (n : Nat) (f : T3) (p q r s : Int), dis D f → Sm f → 0 ≤ p → 0 ≤ q → 0 ≤ r → 0 ≤ s → p * s - q * r = 1 → p + q + r + s ≤ n →
    (Sm (sub3 f p q r s) → ∃ k, Rk f k = sub3 f p q r s) ∧ ¬ ((sub3 f p q r s).1 < 0 ∧ 0 < (sub3 f p q r s).2.2) := by
  intro n
  induction n with
  | zero =>
    intro f p q r s h S hp hq hr hs hd hn
    have e1 : p = 0 := by omega
    have e2 : q = 0 := by omega
    subst e1 e2
    simp at hd
  | succ n ih =>
    intro f p q r s h S hp hq hr hs hd hn
    have h0 := rs_ne R h
    have ho := Rv_ok R h S
    rcases det_cone hp hq hr hs hd with ⟨rfl, rfl, rfl, rfl⟩ | ⟨h1, h2⟩ | ⟨h1, h2⟩
    · rw [sub3_one]
      exact ⟨fun _ => ⟨0, rfl⟩, fun hx => by have := S.a; omega⟩
    · have hrs : 0 < r + s := by
        refine Int.not_le.1 fun hle => ?_
        have e1 : r = 0 := by omega
        have e2 : s = 0 := by omega
        subst e1 e2
        simp at hd
      have he : sub3 f p q r s = sub3 (f.1, f.2.1 + 2 * f.1, rs3 f) (p - r) (q - s) r s := by
        obtain ⟨a, b, c⟩ := f
        simp only [sub3, rs3, Prod.mk.injEq]
        refine ⟨?_, ?_, ?_⟩ <;> grind
      by_cases hneg : rs3 f < 0
      · have hv : Rv f = (f.1, f.2.1 + 2 * f.1, rs3 f) := if_pos hneg
        rw [he, ← hv]
        have hk := ih (Rv f) (p - r) (q - s) r s ho.1 ho.2 (by omega) (by omega) hr hs (by grind) (by omega)
        refine ⟨fun hS => ?_, hk.2⟩
        obtain ⟨k, hk1⟩ := hk.1 hS
        exact ⟨k + 1, by rw [Rk_s]; exact hk1⟩
      · have hb : 0 ≤ f.2.1 + 2 * f.1 := by
          have := S.a
          have := S.c
          unfold rs3 at *
          omega
        have c1 : 0 ≤ (sub3 f p q r s).1 := by
          rw [he]
          exact cone_pos (q := 0) (s := 0) (Int.le_of_lt S.a) hb (by dsimp only; omega) (by omega) hr
        have c2 : 0 ≤ (sub3 f p q r s).2.2 := by
          rw [he]
          exact cone_pos (q := 0) (s := 0) (Int.le_of_lt S.a) hb (by dsimp only; omega) (by omega) hs
        exact ⟨fun hS => absurd hS.c (by omega), fun hx => by omega⟩
    · have hrs : 0 < p + q := by
        refine Int.not_le.1 fun hle => ?_
        have e1 : p = 0 := by omega
        have e2 : q = 0 := by omega
        subst e1 e2
        simp at hd
      have he : sub3 f p q r s = sub3 (rs3 f, f.2.1 + 2 * f.2.2, f.2.2) p q (r - p) (s - q) := by
        obtain ⟨a, b, c⟩ := f
        simp only [sub3, rs3, Prod.mk.injEq]
        refine ⟨?_, ?_, ?_⟩ <;> grind
      by_cases hneg : rs3 f < 0
      · have hb : 0 ≤ -(f.2.1 + 2 * f.2.2) := by
          have := S.a
          have := S.c
          unfold rs3 at *
          omega
        have hcn := S.c
        have c1 : (sub3 f p q r s).1 ≤ 0 := by
          rw [he]
          have := cone_pos (a := -(rs3 f)) (b := -(f.2.1 + 2 * f.2.2)) (c := -f.2.2) (p := p) (r := r - p) (q := 0) (s := 0) (by omega) hb (by omega) hp (by omega)
          simp only [sub3, Int.neg_mul] at this ⊢
          omega
        have c2 : (sub3 f p q r s).2.2 ≤ 0 := by
          rw [he]
          have := cone_pos (a := -(rs3 f)) (b := -(f.2.1 + 2 * f.2.2)) (c := -f.2.2) (p := q) (r := s - q) (q := 0) (s := 0) (by omega) hb (by omega) hq (by omega)
          simp only [sub3, Int.neg_mul] at this ⊢
          omega
        exact ⟨fun hS => absurd hS.a (by omega), fun hx => by omega⟩
      · have hv : Rv f = (rs3 f, f.2.1 + 2 * f.2.2, f.2.2) := if_neg hneg
        rw [he, ← hv]
        have hk := ih (Rv f) p q (r - p) (s - q) ho.1 ho.2 hp hq (by omega) (by omega) (by grind) (by omega)
        refine ⟨fun hS => ?_, hk.2⟩
        obtain ⟨k, hk1⟩ := hk.1 hS
        exact ⟨k + 1, by rw [Rk_s]; exact hk1⟩

theorem sgn_mul (x y : Int) : (0 ≤ x * y ∧ (0 ≤ x ∧ 0 ≤ y ∨ x ≤ 0 ∧ y ≤ 0)) ∨ (x * y < 0 ∧ (0 ≤ x ∧ y ≤ 0 ∨ x ≤ 0 ∧ 0 ≤ y)) := by
  rcases Int.lt_trichotomy x 0 with a | rfl | a <;> rcases Int.lt_trichotomy y 0 with b | rfl | b
  · have := Int.mul_pos_of_neg_of_neg a b; omega
  · rw [Int.mul_zero]; omega
  · have := Int.mul_neg_of_neg_of_pos a b; omega
  · rw [Int.zero_mul]; omega
  · omega
  · rw [Int.zero_mul]; omega
  · have := Int.mul_neg_of_pos_of_neg a b; omega
  · rw [Int.mul_zero]; omega
  · have := Int.mul_pos a b; omega
theorem sgn_mul' (x y : Int) : (0 < x * y ∧ (0 ≤ x ∧ 0 ≤ y ∨ x ≤ 0 ∧ y ≤ 0)) ∨ (x * y ≤ 0 ∧ (0 ≤ x ∧ y ≤ 0 ∨ x ≤ 0 ∧ 0 ≤ y)) := by
  rcases Int.lt_trichotomy x 0 with a | rfl | a <;> rcases Int.lt_trichotomy y 0 with b | rfl | b
  · have := Int.mul_pos_of_neg_of_neg a b; omega
  · rw [Int.mul_zero]; omega
  · have := Int.mul_neg_of_neg_of_pos a b; omega
  · rw [Int.zero_mul]; omega
  · omega
  · rw [Int.zero_mul]; omega
  · have := Int.mul_neg_of_pos_of_neg a b; omega
  · rw [Int.mul_zero]; omega
  · have := Int.mul_pos a b; omega
theorem det_signs {p q r s : Int} (hd : p * s - q * r = 1) : (0 ≤ p ∧ 0 ≤ q ∧ 0 ≤ r ∧ 0 ≤ s) ∨ (p ≤ 0 ∧ q ≤ 0 ∧ r ≤ 0 ∧ s ≤ 0) ∨ (0 ≤ p ∧ q ≤ 0 ∧ r ≤ 0 ∧ 0 ≤ s) ∨ (p ≤ 0 ∧ 0 ≤ q ∧ 0 ≤ r ∧ s ≤ 0) ∨ (0 ≤ p ∧ s ≤ 0 ∧ 0 ≤ r ∧ q ≤ 0) ∨ (p ≤ 0 ∧ 0 ≤ s ∧ 0 ≤ r ∧ q ≤ 0) ∨ (0 ≤ p ∧ s ≤ 0 ∧ r ≤ 0 ∧ 0 ≤ q) ∨ (p ≤ 0 ∧ 0 ≤ s ∧ r ≤ 0 ∧ 0 ≤ q) := by
  rcases sgn_mul' p s with ⟨h1, a | a⟩ | ⟨h1, a | a⟩ <;> rcases sgn_mul q r with ⟨h2, b | b⟩ | ⟨h2, b | b⟩ <;> first | (exfalso; omega) | skip
  · exact .inl ⟨a.1, b.1, b.2, a.2⟩
  · exact .inr (.inr (.inl ⟨a.1, b.1, b.2, a.2⟩))
  · exact .inr (.inr (.inr (.inl ⟨a.1, b.1, b.2, a.2⟩)))
  · exact .inr (.inl ⟨a.1, b.1, b.2, a.2⟩)
  · exact .inr (.inr (.inr (.inr (.inr (.inr (.inl ⟨a.1, a.2, b.2, b.1⟩))))))
  · exact .inr (.inr (.inr (.inr (.inl ⟨a.1, a.2, b.2, b.1⟩))))
  · exact .inr (.inr (.inr (.inr (.inr (.inr (.inr ⟨a.1, a.2, b.2, b.1⟩))))))
  · exact .inr (.inr (.inr (.inr (.inr (.inl ⟨a.1, a.2, b.2, b.1⟩)))))

/-- Equivalent simple forms lie on one river. -/
theorem river_one {D r0 : Int} (R : RD D r0) {f g : T3} (hf : dis D f) (hg : dis D g) (Sf : Sm f) (Sg : Sm g) {p q r s : Int} (hd : p * s - q * r = 1) (he : g = sub3 f p q r s) : (∃ k, Rk f k = g) ∨ ∃ k, Rk g k = f := by
  have hi : f = sub3 g s (-q) (-r) p := by rw [he, sub3_inv hd]
  have ha := Sg.a
  have hc := Sg.c
  have e1 : g.1 = f.1 * p * p + f.2.1 * p * r + f.2.2 * r * r := by rw [he]; rfl
  have e2 : g.2.2 = f.1 * q * q + f.2.1 * q * s + f.2.2 * s * s := by rw [he]; rfl
  have Sf' : Sm (f.1, -f.2.1, f.2.2) := ⟨Sf.a, Sf.c⟩
  have hf' : dis D (f.1, -f.2.1, f.2.2) := by unfold dis at *; dsimp only; grind
  rcases det_signs hd with ⟨h1, h2, h3, h4⟩ | ⟨h1, h2, h3, h4⟩ | ⟨h1, h2, h3, h4⟩ | ⟨h1, h2, h3, h4⟩ | ⟨h1, h2, h3, h4⟩ | ⟨h1, h2, h3, h4⟩ | ⟨h1, h2, h3, h4⟩ | ⟨h1, h2, h3, h4⟩
  · have := (cone R (p + q + r + s).toNat f p q r s hf Sf h1 h2 h3 h4 hd (by omega)).1
    rw [← he] at this
    exact .inl (this Sg)
  · have := (cone R (-p + -q + -r + -s).toNat f (-p) (-q) (-r) (-s) hf Sf (by omega) (by omega) (by omega) (by omega) (by grind) (by omega)).1
    rw [sub3_neg, ← he] at this
    exact .inl (this Sg)
  · have := (cone R (p + -q + -r + s).toNat g s (-q) (-r) p hg Sg (by omega) (by omega) (by omega) (by omega) (by grind) (by omega)).1
    rw [← hi] at this
    exact .inr (this Sf)
  · have := (cone R (-p + q + r + -s).toNat g (-s) (- -q) (- -r) (-p) hg Sg (by omega) (by omega) (by omega) (by omega) (by grind) (by omega)).1
    rw [sub3_neg, ← hi] at this
    exact .inr (this Sf)
  · refine absurd ?_ (cone R (p + -q + r + -s).toNat f (-q) p (-s) r hf Sf (by omega) (by omega) (by omega) (by omega) (by grind) (by omega)).2
    simp only [sub3]
    constructor <;> grind
  · refine absurd ?_ (cone R (-p + -q + r + s).toNat (f.1, -f.2.1, f.2.2) (-q) (-p) s r hf' Sf' (by omega) (by omega) (by omega) (by omega) (by grind) (by omega)).2
    simp only [sub3]
    constructor <;> grind
  · refine absurd ?_ (cone R (p + q + -r + -s).toNat (f.1, -f.2.1, f.2.2) q p (-s) (-r) hf' Sf' (by omega) (by omega) (by omega) (by omega) (by grind) (by omega)).2
    simp only [sub3]
    constructor <;> grind
  · refine absurd ?_ (cone R (-p + q + -r + s).toNat f q (-p) s (-r) hf Sf (by omega) (by omega) (by omega) (by omega) (by grind) (by omega)).2
    simp only [sub3]
    constructor <;> grind

end Go.Proofs.Ytdgfnmkiabjfnaa

/-! The river and the cycle: each step of the cycle is one run of the river. -/
namespace Go.Proofs.Ytdgfnmkiabjfnaa
open Go.RowKit
set_option linter.unusedSimpArgs false
set_option linter.unusedVariables false
set_option maxRecDepth 100000

/-- The form as seen with its positive side first. -/
def Ori (f : T3) : T3 := if 0 < f.1 then f else (f.2.2, -f.2.1, f.1)
/-- Before the step: what lies behind. -/
def bk3 (f : T3) : Int := f.1 - f.2.1 + f.2.2
def trn (f : T3) : Prop := (0 < rs3 f ∧ bk3 f < 0) ∨ (rs3 f < 0 ∧ 0 < bk3 f)

theorem run_pos {a b c j n : Int} (hc : c < 0) (h0 : 0 < a) (hn : 0 < a + b * n + c * n * n) (h1 : 0 ≤ j) (h2 : j ≤ n) : 0 < a + b * j + c * j * j := by
  by_cases hz : n = 0
  · have : j = 0 := by omega
    subst this
    simpa using h0
  have hn0 : 0 < n := by omega
  refine Int.not_le.1 fun hle => ?_
  have e : n * (a + b * j + c * j * j) = (n - j) * a + j * (a + b * n + c * n * n) + -c * n * (j * (n - j)) := by grind
  have h3 := Int.mul_nonneg (show 0 ≤ n - j by omega) (Int.le_of_lt h0)
  have h4 := Int.mul_nonneg h1 (Int.le_of_lt hn)
  have h5 := Int.mul_nonneg (Int.mul_nonneg (show 0 ≤ -c by omega) (Int.le_of_lt hn0)) (Int.mul_nonneg h1 (show 0 ≤ n - j by omega))
  have h6 := Int.mul_le_mul_of_nonneg_left hle (Int.le_of_lt hn0)
  rw [Int.mul_zero] at h6
  by_cases hj : j = n
  · subst hj
    have := Int.mul_pos hn0 hn
    omega
  · have := Int.mul_pos (show 0 < n - j by omega) h0
    omega

/-- A run with the negative side fixed. -/
theorem runU {a b c : Int} (h0 : 0 < a) (hc : c < 0) : ∀ (j n : Nat), j ≤ n → 0 < a + b * n + c * n * n → Rk (a, b, c) j = (a + b * j + c * j * j, b + 2 * c * j, c)
  | 0, n, _, _ => by simp [Rk]
  | j + 1, n, hj, hn => by
    have ih := runU h0 hc j n (by omega) hn
    have hp := run_pos (j := ((j : Int) + 1)) hc h0 hn (by omega) (by omega)
    rw [Rk, ih]
    have hs : rs3 (a + b * j + c * j * j, b + 2 * c * j, c) = a + b * ((j : Int) + 1) + c * ((j : Int) + 1) * ((j : Int) + 1) := by
      simp only [rs3]; grind
    rw [Rv_pos (by rw [hs]; omega), hs]
    simp only [Prod.mk.injEq, Int.natCast_add, Int.cast_ofNat_Int]
    refine ⟨trivial, ?_, trivial⟩
    grind
/-- A run with the positive side fixed. -/
theorem runT {a b c : Int} (h0 : 0 < a) (hc : c < 0) : ∀ (j n : Nat), j ≤ n → c + b * n + a * n * n < 0 → Rk (a, b, c) j = (a, b + 2 * a * j, c + b * j + a * j * j)
  | 0, n, _, _ => by simp [Rk]
  | j + 1, n, hj, hn => by
    have ih := runT h0 hc j n (by omega) hn
    have hp := run_pos (a := -c) (b := -b) (c := -a) (n := (n : Int)) (j := ((j : Int) + 1)) (by omega) (by omega) (by grind) (by omega) (by omega)
    rw [Rk, ih]
    have hs : rs3 (a, b + 2 * a * j, c + b * j + a * j * j) = c + b * ((j : Int) + 1) + a * ((j : Int) + 1) * ((j : Int) + 1) := by
      simp only [rs3]; grind
    rw [Rv_neg (by rw [hs]; grind), hs]
    simp only [Prod.mk.injEq, Int.natCast_add, Int.cast_ofNat_Int]
    refine ⟨trivial, ?_, trivial⟩
    grind

theorem cyc_opp {D r : Int} (R : RD D r) {f : T3} (h : dis D f) (hc : cyc r f = true) : (0 < f.1 ∧ f.2.2 < 0) ∨ (f.1 < 0 ∧ 0 < f.2.2) := by
  obtain ⟨a1, a2, a3, a4⟩ := cyc_iff.1 hc
  have hn := ne_of_dis R h
  have l := R.l
  have q0 : f.2.1 * f.2.1 ≤ r * r := Int.mul_le_mul a2 a2 (by omega) R.p
  unfold dis at h
  have hm : 4 * f.1 * f.2.2 < 0 := by omega
  rw [Int.mul_assoc] at hm
  rcases sgn_mul f.1 f.2.2 with ⟨h1, _⟩ | ⟨_, h1⟩ <;> omega
theorem cyc_gap {D r : Int} (R : RD D r) {f : T3} (h : dis D f) (hc : cyc r f = true) : 0 < rs3 f ∧ bk3 f < 0 := by
  obtain ⟨a1, a2, a3, a4⟩ := cyc_iff.1 hc
  have := cyc_c R h hc
  have := cyc_opp R h hc
  unfold rs3 bk3
  omega
theorem Ori_pos {f : T3} (h : 0 < f.1) : Ori f = f := if_pos h
theorem Ori_neg {f : T3} (h : ¬ 0 < f.1) : Ori f = (f.2.2, -f.2.1, f.1) := if_neg h
theorem Ori_ok {D r : Int} (R : RD D r) {f : T3} (h : dis D f) (hc : cyc r f = true) : dis D (Ori f) ∧ Sm (Ori f) ∧ trn (Ori f) := by
  have ho := cyc_opp R h hc
  have hg := cyc_gap R h hc
  by_cases hp : 0 < f.1
  · rw [Ori_pos hp]
    exact ⟨h, ⟨hp, by omega⟩, .inl hg⟩
  · rw [Ori_neg hp]
    refine ⟨?_, ⟨by dsimp only; omega, by dsimp only; omega⟩, .inr ?_⟩
    · unfold dis at *
      dsimp only
      grind
    · unfold rs3 bk3 at *
      dsimp only
      omega
theorem Ori_inj {D r : Int} (R : RD D r) {f g : T3} (hf : dis D f) (cf : cyc r f = true) (hg : dis D g) (cg : cyc r g = true) (he : Ori f = Ori g) : f = g := by
  have h1 := (cyc_iff.1 cf).1
  have h2 := (cyc_iff.1 cg).1
  have h3 := cyc_opp R hf cf
  have h4 := cyc_opp R hg cg
  obtain ⟨a, b, c⟩ := f
  obtain ⟨d, e, k⟩ := g
  dsimp only at h1 h2 h3 h4
  unfold Ori at he
  dsimp only at he
  by_cases hp : 0 < a <;> by_cases hq : 0 < d
  · rw [if_pos hp, if_pos hq] at he
    exact he
  · rw [if_pos hp, if_neg hq] at he
    simp only [Prod.mk.injEq] at he
    omega
  · rw [if_neg hp, if_pos hq] at he
    simp only [Prod.mk.injEq] at he
    omega
  · rw [if_neg hp, if_neg hq] at he
    simp only [Prod.mk.injEq] at he ⊢
    omega

/-- One step of the cycle is one run of the river. -/
theorem cnx_run {D r : Int} (R : RD D r) {f : T3} (h : dis D f) (hc : cyc r f = true) : ∃ n : Nat, 1 ≤ n ∧ Ori (cnx D r f) = Rk (Ori f) n ∧ (∀ j, 0 < j → j < n → ¬ trn (Rk (Ori f) j)) ∧ ∀ j, j < n → (rs3 (Rk (Ori f) j) < 0 ↔ f.1 < 0) := by
  have hd2 := cnx_dis R h
  have hc2 := cyc_nx R h hc
  have ho := cyc_opp R h hc
  have ho2 := cyc_opp R hd2 hc2
  have hb2 := (cyc_iff.1 hc2).1
  have hb := (cyc_iff.1 hc).1
  obtain ⟨e, h1, _⟩ := cnx_ex R h
  rw [h1] at ho2 hb2 ⊢
  clear h1 hd2 hc2 hc h
  obtain ⟨a, b, c⟩ := f
  dsimp only at *
  rcases ho with ⟨p1, p2⟩ | ⟨p1, p2⟩
  · have he : e < 0 := by
      refine Int.not_le.1 fun hle => ?_
      have := Int.mul_le_mul_of_nonneg_left hle (show 0 ≤ -c by omega)
      have e2 : 2 * c * e = -(2 * (-c * e)) := by grind
      omega
    obtain ⟨n, rfl⟩ : ∃ n : Nat, e = -n := ⟨(-e).toNat, by omega⟩
    rw [Ori_pos (show 0 < (a, b, c).1 from p1), Ori_neg (by dsimp only; omega)]
    dsimp only
    have hn : 0 < a + b * n + c * n * n := by
      have : a - b * -(n : Int) + c * -(n : Int) * -(n : Int) = a + b * n + c * n * n := by grind
      omega
    refine ⟨n, by omega, ?_, fun j j1 j2 => ?_, fun j j2 => ?_⟩
    · rw [runU p1 p2 n n (Nat.le_refl _) hn]
      simp only [Prod.mk.injEq]
      refine ⟨?_, ?_, trivial⟩ <;> grind
    · rw [runU p1 p2 j n (by omega) hn]
      have q1 := run_pos (j := (j : Int) + 1) p2 p1 hn (by omega) (by omega)
      have q2 := run_pos (j := (j : Int) - 1) p2 p1 hn (by omega) (by omega)
      have s1 : rs3 (a + b * j + c * j * j, b + 2 * c * j, c) = a + b * ((j : Int) + 1) + c * ((j : Int) + 1) * ((j : Int) + 1) := by simp only [rs3]; grind
      have s2 : bk3 (a + b * j + c * j * j, b + 2 * c * j, c) = a + b * ((j : Int) - 1) + c * ((j : Int) - 1) * ((j : Int) - 1) := by simp only [bk3]; grind
      unfold trn
      rw [s1, s2]
      omega
    · rw [runU p1 p2 j n (by omega) hn]
      have q1 := run_pos (j := (j : Int) + 1) p2 p1 hn (by omega) (by omega)
      have s1 : rs3 (a + b * j + c * j * j, b + 2 * c * j, c) = a + b * ((j : Int) + 1) + c * ((j : Int) + 1) * ((j : Int) + 1) := by simp only [rs3]; grind
      rw [s1]
      omega
  · have he : 0 < e := by
      refine Int.not_le.1 fun hle => ?_
      have := Int.mul_le_mul_of_nonneg_left hle (show 0 ≤ c by omega)
      have e2 : 2 * c * e = 2 * (c * e) := by grind
      omega
    obtain ⟨n, rfl⟩ : ∃ n : Nat, e = n := ⟨e.toNat, by omega⟩
    rw [Ori_neg (show ¬ 0 < (a, b, c).1 by dsimp only; omega), Ori_pos (by dsimp only; omega)]
    dsimp only
    have hn : a + -b * n + c * n * n < 0 := by
      have : a - b * (n : Int) + c * (n : Int) * (n : Int) = a + -b * n + c * n * n := by grind
      omega
    refine ⟨n, by omega, ?_, fun j j1 j2 => ?_, fun j j2 => ?_⟩
    · rw [runT p2 p1 n n (Nat.le_refl _) hn]
      simp only [Prod.mk.injEq]
      refine ⟨trivial, ?_, ?_⟩ <;> grind
    · rw [runT p2 p1 j n (by omega) hn]
      have q1 := run_pos (a := -a) (b := - -b) (c := -c) (n := (n : Int)) (j := (j : Int) + 1) (by omega) (by omega) (by grind) (by omega) (by omega)
      have q2 := run_pos (a := -a) (b := - -b) (c := -c) (n := (n : Int)) (j := (j : Int) - 1) (by omega) (by omega) (by grind) (by omega) (by omega)
      have s1 : rs3 (c, -b + 2 * c * j, a + -b * j + c * j * j) = -(-a + - -b * ((j : Int) + 1) + -c * ((j : Int) + 1) * ((j : Int) + 1)) := by simp only [rs3]; grind
      have s2 : bk3 (c, -b + 2 * c * j, a + -b * j + c * j * j) = -(-a + - -b * ((j : Int) - 1) + -c * ((j : Int) - 1) * ((j : Int) - 1)) := by simp only [bk3]; grind
      unfold trn
      rw [s1, s2]
      omega
    · rw [runT p2 p1 j n (by omega) hn]
      have q1 := run_pos (a := -a) (b := - -b) (c := -c) (n := (n : Int)) (j := (j : Int) + 1) (by omega) (by omega) (by grind) (by omega) (by omega)
      have s1 : rs3 (c, -b + 2 * c * j, a + -b * j + c * j * j) = -(-a + - -b * ((j : Int) + 1) + -c * ((j : Int) + 1) * ((j : Int) + 1)) := by simp only [rs3]; grind
      rw [s1]
      omega

theorem orb_s (D r : Int) (f : T3) : ∀ k, orb D r f (k + 1) = orb D r (cnx D r f) k
  | 0 => rfl
  | k + 1 => by rw [orb, orb_s D r f k]; rfl
/-- Two cyclic forms on one river lie in one cycle. -/
theorem cyc_river {D r : Int} (R : RD D r) {g : T3} (hg : dis D g) (cg : cyc r g = true) : ∀ (k : Nat) (f : T3), dis D f → cyc r f = true → Rk (Ori f) k = Ori g → ∃ j, orb D r f j = g := by
  intro k
  induction k using Nat.strongRecOn with
  | ind k ih =>
    intro f hf cf he
    by_cases h0 : k = 0
    · subst h0
      exact ⟨0, Ori_inj R hf cf hg cg he⟩
    obtain ⟨n, n1, n2, n3, _⟩ := cnx_run R hf cf
    by_cases hk : k < n
    · have := n3 k (by omega) hk
      rw [he] at this
      exact absurd (Ori_ok R hg cg).2.2 this
    · rw [show k = n + (k - n) by omega, Rk_add, ← n2] at he
      obtain ⟨j, hj⟩ := ih (k - n) (by omega) (cnx D r f) (cnx_dis R hf) (cyc_nx R hf cf) he
      exact ⟨j + 1, by rw [orb_s]; exact hj⟩

/-- Properly equivalent. -/
def Eqv (f g : T3) : Prop := ∃ p q r s, p * s - q * r = 1 ∧ g = sub3 f p q r s
theorem Eqv.rfl' (f : T3) : Eqv f f := ⟨1, 0, 0, 1, by decide, (sub3_one f).symm⟩
theorem Eqv.symm {f g : T3} (h : Eqv f g) : Eqv g f := by
  obtain ⟨p, q, r, s, hd, he⟩ := h
  exact ⟨s, -q, -r, p, by grind, by rw [he, sub3_inv hd]⟩
theorem Eqv.trans {f g h : T3} (a : Eqv f g) (b : Eqv g h) : Eqv f h := by
  obtain ⟨p, q, r, s, hd, he⟩ := a
  obtain ⟨p', q', r', s', hd', he'⟩ := b
  refine ⟨_, _, _, _, ?_, by rw [he', he, sub3_mul]⟩
  have : (p * s - q * r) * (p' * s' - q' * r') = 1 := by rw [hd, hd']; rfl
  grind
theorem Eqv.ori (f : T3) : Eqv f (Ori f) := by
  by_cases h : 0 < f.1
  · rw [Ori_pos h]; exact Eqv.rfl' f
  · rw [Ori_neg h]
    refine ⟨0, -1, 1, 0, by decide, ?_⟩
    obtain ⟨a, b, c⟩ := f
    simp only [sub3, Prod.mk.injEq]
    refine ⟨?_, ?_, ?_⟩ <;> grind
theorem Eqv.cnx {D r : Int} (R : RD D r) {f : T3} (h : dis D f) : Eqv f (cnx D r f) := by
  obtain ⟨e, h1, _⟩ := cnx_ex R h
  rw [h1]
  refine ⟨0, -1, 1, e, by omega, ?_⟩
  obtain ⟨a, b, c⟩ := f
  simp only [sub3, Prod.mk.injEq]
  refine ⟨?_, ?_, ?_⟩ <;> grind
theorem Eqv.dis {D : Int} {f g : T3} (h : Eqv f g) (hf : dis D f) : dis D g := by
  obtain ⟨p, q, r, s, hd, he⟩ := h
  rw [he]
  exact sub3_dis hd hf
/-- Equivalent cyclic forms lie in one cycle. -/
theorem cyc_one {D r : Int} (R : RD D r) {f g : T3} (hf : dis D f) (cf : cyc r f = true) (cg : cyc r g = true) (h : Eqv f g) : (∃ j, orb D r f j = g) ∨ ∃ j, orb D r g j = f := by
  have hg := h.dis hf
  have of := Ori_ok R hf cf
  have og := Ori_ok R hg cg
  obtain ⟨p, q, s, t, hd, he⟩ := ((Eqv.ori f).symm.trans h).trans (Eqv.ori g)
  rcases river_one R of.1 og.1 of.2.1 og.2.1 hd he with ⟨k, hk⟩ | ⟨k, hk⟩
  · exact .inl (cyc_river R hg cg k f hf cf hk)
  · exact .inr (cyc_river R hf cf k g hg cg hk)

end Go.Proofs.Ytdgfnmkiabjfnaa

/-! Conjugate matrices: the plain laws. -/
namespace Go.Proofs.Ytdgfnmkiabjfnaa
open Go.RowKit
set_option linter.unusedSimpArgs false
set_option linter.unusedVariables false
set_option maxRecDepth 100000

/-! exact products -/
def N6b (x : Int) : Prop := -1000000 ≤ x ∧ x ≤ 1000000
theorem mu_ex {x y u v : Int} (hx : N6b x) (hy : N6b y) (hu : N6b u) (hv : N6b v) : mu x y u v = x * u + y * v := by
  have e1 := mul_bd (a := x) (b := u) (A := 1000000) (B := 1000000) hx.1 hx.2 hu.1 hu.2
  have e2 := mul_bd (a := y) (b := v) (A := 1000000) (B := 1000000) hy.1 hy.2 hv.1 hv.2
  unfold mu
  rw [wrap_small (n := x * u) (by omega) (by omega), wrap_small (n := y * v) (by omega) (by omega), wrap_small (by omega) (by omega)]
theorem numT_iff {p q r s : Int} : numT (p, q, r, s) = true ↔ N6b p ∧ N6b q ∧ N6b r ∧ N6b s := by
  simp only [numT, Bool.and_eq_true, num_iff, N6b, and_assoc]
theorem mulT_ex {p q r s a b c d : Int} (h1 : numT (p, q, r, s) = true) (h2 : numT (a, b, c, d) = true) : mulT (p, q, r, s) (a, b, c, d) = (p * a + q * c, p * b + q * d, r * a + s * c, r * b + s * d) := by
  obtain ⟨p1, q1, r1, s1⟩ := numT_iff.1 h1
  obtain ⟨a1, b1, c1, d1⟩ := numT_iff.1 h2
  simp only [mulT]
  rw [mu_ex p1 q1 a1 c1, mu_ex p1 q1 b1 d1, mu_ex r1 s1 a1 c1, mu_ex r1 s1 b1 d1]
theorem prp_num {p q r s : Int} (h : prp (p, q, r, s) = true) : numT (p, q, r, s) = true := by
  obtain ⟨h1, h2, h3, h4, _⟩ := prp_iff.1 h
  exact numT_iff.2 ⟨h1, h2, h3, h4⟩
theorem prp_of {p q r s : Int} (h : numT (p, q, r, s) = true) (hd : p * s - q * r = 1) : prp (p, q, r, s) = true := by
  obtain ⟨h1, h2, h3, h4⟩ := numT_iff.1 h
  exact prp_iff.2 ⟨h1, h2, h3, h4, hd⟩
theorem invT_ex {p q r s : Int} (h : prp (p, q, r, s) = true) : invT (p, q, r, s) = (s, -q, -r, p) := by
  obtain ⟨h1, h2, h3, h4, h5⟩ := prp_iff.1 h
  have hd : detT (p, q, r, s) = 1 := by
    simp only [prp, Bool.and_eq_true, decide_eq_true_eq] at h
    exact h.2
  simp only [invT, hd]
  have w1 : wrap64 (-1) = -1 := wrap_small (by omega) (by omega)
  rw [w1, wrap_small (n := 1 * s) (by omega) (by omega), wrap_small (n := -1 * q) (by omega) (by omega), wrap_small (n := -1 * r) (by omega) (by omega), wrap_small (n := 1 * p) (by omega) (by omega)]
  simp only [Int.one_mul, Int.neg_mul]

/-- What a conjugate is. -/
structure CJ (m g n : T4) : Prop where
  pm : prp m = true
  pg : prp g = true
  pn : prp n = true
  t : trT n = trT m
  f : fxT n = sub3 (fxT m) g.1 g.2.1 g.2.2.1 g.2.2.2
  d : g.1 * g.2.2.2 - g.2.1 * g.2.2.1 = 1
theorem cj_ok {m g : T4} (h : cjB m g = true) : CJ m g (cjM m g) := by
  obtain ⟨p, q, r, s⟩ := m
  obtain ⟨a, b, c, d⟩ := g
  rw [cjM, if_pos h]
  simp only [cjB, Bool.and_eq_true] at h
  obtain ⟨⟨⟨h1, h2⟩, h3⟩, h4⟩ := h
  have hi := invT_ex h2
  have n1 := prp_num h1
  have n2 := prp_num h2
  have ni : numT (d, -b, -c, a) = true := by
    obtain ⟨x1, x2, x3, x4⟩ := numT_iff.1 n2
    exact numT_iff.2 ⟨x4, by unfold N6b at *; omega, by unfold N6b at *; omega, x1⟩
  rw [hi, mulT_ex ni n1] at h3 h4 ⊢
  rw [mulT_ex h3 n2] at h4 ⊢
  have d1 := (prp_iff.1 h1).2.2.2.2
  have d2 := (prp_iff.1 h2).2.2.2.2
  refine ⟨h1, h2, prp_of h4 ?_, ?_, ?_, d2⟩
  · have e : ((d * p + -b * r) * a + (d * q + -b * s) * c) * ((-c * p + a * r) * b + (-c * q + a * s) * d) - ((d * p + -b * r) * b + (d * q + -b * s) * d) * ((-c * p + a * r) * a + (-c * q + a * s) * c) = (a * d - b * c) * (a * d - b * c) * (p * s - q * r) := by grind
    rw [e, d1, d2]; rfl
  · show (d * p + -b * r) * a + (d * q + -b * s) * c + ((-c * p + a * r) * b + (-c * q + a * s) * d) = p + s
    have e : (d * p + -b * r) * a + (d * q + -b * s) * c + ((-c * p + a * r) * b + (-c * q + a * s) * d) = (a * d - b * c) * (p + s) := by grind
    rw [e, d2, Int.one_mul]
  · simp only [fxT, sub3, Prod.mk.injEq]
    refine ⟨?_, ?_, ?_⟩ <;> grind
theorem CJ.eqv {m g n : T4} (h : CJ m g n) : Eqv (fxT m) (fxT n) := ⟨_, _, _, _, h.d, h.f⟩

/-! content and direction -/
theorem dvd_cnt {f : T3} {k : Int} (h1 : k ∣ f.1) (h2 : k ∣ f.2.1) (h3 : k ∣ f.2.2) : k ∣ cntF f := by
  unfold cntF
  exact Int.dvd_coe_gcd (Int.dvd_coe_gcd h1 h2) h3
theorem cnt_eqv1 {f g : T3} (h : Eqv f g) : cntF f ∣ cntF g := by
  obtain ⟨p, q, r, s, hd, he⟩ := h
  obtain ⟨h1, h2, h3⟩ := cnt_dvd f
  have key : ∀ x y z : Int, cntF f ∣ f.1 * x + f.2.1 * y + f.2.2 * z := fun x y z => Int.dvd_add (Int.dvd_add (Int.dvd_trans h1 (Int.dvd_mul_right _ _)) (Int.dvd_trans h2 (Int.dvd_mul_right _ _))) (Int.dvd_trans h3 (Int.dvd_mul_right _ _))
  rw [he]
  refine dvd_cnt ?_ ?_ ?_
  · have := key (p * p) (p * r) (r * r)
    simp only [sub3]
    rw [show f.1 * p * p + f.2.1 * p * r + f.2.2 * r * r = f.1 * (p * p) + f.2.1 * (p * r) + f.2.2 * (r * r) by grind]
    exact this
  · have := key (2 * p * q) (p * s + q * r) (2 * r * s)
    simp only [sub3]
    rw [show 2 * f.1 * p * q + f.2.1 * (p * s + q * r) + 2 * f.2.2 * r * s = f.1 * (2 * p * q) + f.2.1 * (p * s + q * r) + f.2.2 * (2 * r * s) by grind]
    exact this
  · have := key (q * q) (q * s) (s * s)
    simp only [sub3]
    rw [show f.1 * q * q + f.2.1 * q * s + f.2.2 * s * s = f.1 * (q * q) + f.2.1 * (q * s) + f.2.2 * (s * s) by grind]
    exact this
theorem cnt_eqv {f g : T3} (h : Eqv f g) : cntF f = cntF g := by
  have h0 : 0 ≤ cntF f := by unfold cntF; omega
  have h1 : 0 ≤ cntF g := by unfold cntF; omega
  exact Int.dvd_antisymm h0 h1 (cnt_eqv1 h) (cnt_eqv1 h.symm)
theorem sq_nn (x : Int) : 0 ≤ x * x := by
  rw [← Int.natAbs_mul_self]; omega
theorem dir_val {f : T3} (hd : 0 ≤ dsk f) {x y : Int} (hv : f.1 * x * x + f.2.1 * x * y + f.2.2 * y * y < 0) : f.1 < 0 ∨ (f.1 = 0 ∧ f.2.2 < 0) := by
  obtain ⟨a, b, c⟩ := f
  unfold dsk at hd
  dsimp only at *
  rcases Int.lt_trichotomy a 0 with h | h | h
  · exact .inl h
  · refine .inr ⟨h, ?_⟩
    subst h
    have hb : b = 0 := by
      refine Decidable.byContradiction fun hb => ?_
      have : 0 < b * b := by
        rcases Int.lt_trichotomy b 0 with k | k | k
        · exact Int.mul_pos_of_neg_of_neg k k
        · exact absurd k hb
        · exact Int.mul_pos k k
      simp at hd
      omega
    subst hb
    refine Int.not_le.1 fun hc => ?_
    have h1 := Int.mul_nonneg hc (sq_nn y)
    rw [← Int.mul_assoc] at h1
    simp at hv
    omega
  · exfalso
    have e : 4 * a * (a * x * x + b * x * y + c * y * y) = (2 * a * x + b * y) * (2 * a * x + b * y) + (4 * a * c - b * b) * (y * y) := by grind
    have h1 := sq_nn (2 * a * x + b * y)
    have h2 := Int.mul_nonneg hd (sq_nn y)
    have h3 := Int.mul_neg_of_pos_of_neg (show 0 < 4 * a by omega) hv
    omega
theorem dsk_eqv {f g : T3} (h : Eqv f g) : dsk g = dsk f := by
  obtain ⟨p, q, r, s, hd, he⟩ := h
  rw [he]
  obtain ⟨a, b, c⟩ := f
  simp only [dsk, sub3]
  have h2 : (p * s - q * r) * (p * s - q * r) = 1 := by rw [hd]; rfl
  grind
theorem dir_eqv1 {f g : T3} (hd : 0 ≤ dsk f) (h : Eqv f g) (hg : g.1 < 0 ∨ (g.1 = 0 ∧ g.2.2 < 0)) : f.1 < 0 ∨ (f.1 = 0 ∧ f.2.2 < 0) := by
  obtain ⟨p, q, r, s, _, he⟩ := h
  rcases hg with h1 | ⟨_, h1⟩
  · rw [he] at h1
    exact dir_val hd h1
  · rw [he] at h1
    exact dir_val hd h1
theorem dir_eqv {f g : T3} (hd : 0 ≤ dsk f) (h : Eqv f g) : dirF f = dirF g := by
  have k : (f.1 < 0 ∨ (f.1 = 0 ∧ f.2.2 < 0)) ↔ (g.1 < 0 ∨ (g.1 = 0 ∧ g.2.2 < 0)) := ⟨dir_eqv1 (by rw [dsk_eqv h]; exact hd) h.symm, dir_eqv1 hd h⟩
  unfold dirF
  rw [cnt_eqv h]
  by_cases hf : f.1 < 0 ∨ (f.1 = 0 ∧ f.2.2 < 0)
  · rw [if_pos hf, if_pos (k.1 hf)]
  · rw [if_neg hf, if_neg (fun x => hf (k.2 x))]

/-! cycles -/
theorem rcS_eqv {D : Int} : ∀ (k : Nat) (f : T3) (m : T4), IG D f → (rcS D k f m).2.2 = true → Eqv f (rcS D k f m).1
  | 0, f, m, G, _ => Eqv.rfl' f
  | k + 1, f, m, G, hk => by
    simp only [rcS] at hk ⊢
    by_cases h1 : cyc (rt D) f = true
    · rw [if_pos h1]
      exact Eqv.rfl' f
    · rw [if_neg h1] at hk ⊢
      by_cases h2 : nfG D f = true
      · rw [if_pos h2] at hk ⊢
        by_cases h3 : numT (mulT m (cmM (rt D) f)) = true
        · rw [if_pos h3] at hk ⊢
          exact (Eqv.cnx (cdG_RD G.g).1 G.d).trans (rcS_eqv k _ _ (nf_IG G h2) hk)
        · rw [if_neg h3] at hk; cases hk
      · rw [if_neg h2] at hk; cases hk
theorem rcT_eqv {f : T3} (h : (rcT f).2.2 = true) : Eqv f (rcT f).1 := by
  unfold rcT at h ⊢
  by_cases hg : cgG f = true
  · rw [if_pos hg] at h ⊢
    exact rcS_eqv _ _ _ (IG_of hg) h
  · rw [if_neg hg] at h; cases h
theorem orb_add (D r : Int) (f : T3) (m : Nat) : ∀ k, orb D r f (m + k) = orb D r (orb D r f m) k
  | 0 => rfl
  | k + 1 => by rw [← Nat.add_assoc, orb, orb_add D r f m k]; rfl
theorem orb_mul {D r : Int} {f : T3} {p : Nat} (h : orb D r f p = f) : ∀ k, orb D r f (p * k) = f
  | 0 => rfl
  | k + 1 => by rw [Nat.mul_succ, Nat.add_comm, orb_add, h, orb_mul h k]
theorem orb_mem {D : Int} {f : T3} (G : IG D f) (hc : cyc (rt D) f = true) (j : Nat) : orb D (rt D) f j ∈ cyO D f (cyP D f) := by
  obtain ⟨h1, _, h3, _⟩ := cyP_spec G hc
  have e : orb D (rt D) f j = orb D (rt D) f (j % cyP D f) := by
    conv => lhs; rw [← Nat.div_add_mod j (cyP D f), orb_add, orb_mul h3]
  rw [e]
  exact List.mem_map.2 ⟨_, List.mem_range.2 (Nat.mod_lt _ (by omega)), rfl⟩
theorem sc_eqv {f g : T3} (E : Eqv f g) (h : scB f g = true) : scE f g = true := by
  have h' := h
  simp only [scB, Bool.and_eq_true] at h'
  obtain ⟨h1, h2⟩ := h'
  have c1 := rcT_CG h1
  have c2 := rcT_CG h2
  have E2 := ((rcT_eqv h1).symm.trans E).trans (rcT_eqv h2)
  unfold scE
  rw [h, Bool.true_and, decide_eq_true_eq, cyT]
  generalize (rcT f).1 = x at *
  generalize (rcT g).1 = y at *
  have hD : dsF y = dsF x := by
    have a := E2.dis c1.g.d
    have b := c2.g.d
    unfold dis at a b
    omega
  rw [hD] at c2
  generalize dsF x = D at *
  have R := (cdG_RD c1.g.g).1
  rcases cyc_one R c1.g.d c1.c c2.c E2 with ⟨j, hj⟩ | ⟨j, hj⟩
  · rw [← hj]
    exact orb_mem c1.g c1.c j
  · obtain ⟨p1, _, p3, _⟩ := cyP_spec c2.g c2.c
    have e : orb D (rt D) y (cyP D y * j) = y := orb_mul p3 j
    have hle : j ≤ cyP D y * j := Nat.le_mul_of_pos_left j p1
    rw [show cyP D y * j = j + (cyP D y * j - j) by omega, orb_add, hj] at e
    rw [← e]
    exact orb_mem c1.g c1.c _

/-- Conjugates are told to be conjugate. -/
theorem ac_conj {m g n : T4} (h : CJ m g n) (ha : (acR m n).2 = true) : (acR m n).1 = true := by
  have ht : trT m = trT n := h.t.symm
  unfold acR at ha ⊢
  by_cases h1 : acG m n = true
  · rw [if_pos h1, if_pos ht] at ha ⊢
    by_cases h2 : (trT m).natAbs ≤ 2
    · rw [if_pos h2]
      refine decide_eq_true (dir_eqv ?_ h.eqv)
      have F : FX (trT m) (fxT m) := FX_of (p := m.1) (q := m.2.1) (r := m.2.2.1) (s := m.2.2.2) h.pm
      rw [F.d]
      generalize trT m = t at *
      have : t = -2 ∨ t = -1 ∨ t = 0 ∨ t = 1 ∨ t = 2 := by omega
      rcases this with rfl | rfl | rfl | rfl | rfl <;> decide
    · rw [if_neg h2] at ha ⊢
      by_cases h3 : (fkT m && fkT n) = true
      · rw [if_pos h3] at ha ⊢
        exact sc_eqv h.eqv ha
      · rw [if_neg h3] at ha; cases ha
  · rw [if_neg h1] at ha; cases ha

/-! orders -/
theorem fx_zero {p q r s : Int} (h : p * s - q * r = 1) : (q = 0 ∧ r = 0) ↔ fxT (p, q, r, s) = (0, 0, 0) := by
  simp only [fxT, Prod.mk.injEq]
  constructor
  · rintro ⟨h1, h2⟩
    have := central h h1 h2
    omega
  · rintro ⟨h1, h2, h3⟩
    omega
theorem Eqv.zero {f g : T3} (h : Eqv f g) (hf : f = (0, 0, 0)) : g = (0, 0, 0) := by
  obtain ⟨p, q, r, s, _, he⟩ := h
  rw [he, hf]
  simp [sub3]
theorem CJ.kind {m g n : T4} (h : CJ m g n) : knd m.1 m.2.1 m.2.2.1 m.2.2.2 = knd n.1 n.2.1 n.2.2.1 n.2.2.2 := by
  have dm := (prp_iff.1 (show prp (m.1, m.2.1, m.2.2.1, m.2.2.2) = true from h.pm)).2.2.2.2
  have dn := (prp_iff.1 (show prp (n.1, n.2.1, n.2.2.1, n.2.2.2) = true from h.pn)).2.2.2.2
  have k : (m.2.1 = 0 ∧ m.2.2.1 = 0) ↔ (n.2.1 = 0 ∧ n.2.2.1 = 0) := by
    rw [fx_zero dm, fx_zero dn]
    exact ⟨fun x => h.eqv.zero x, fun x => h.eqv.symm.zero x⟩
  have ht : n.1 + n.2.2.2 = m.1 + m.2.2.2 := h.t
  unfold knd
  rw [ht]
  by_cases hz : m.2.1 = 0 ∧ m.2.2.1 = 0
  · rw [if_pos hz, if_pos (k.1 hz)]
  · rw [if_neg hz, if_neg (fun x => hz (k.2 x))]
theorem CJ.kdI {m g n : T4} (h : CJ m g n) : kdI m = kdI n := by
  unfold Go.Proofs.Ytdgfnmkiabjfnaa.kdI
  rw [h.pm, h.pn, h.kind]
theorem CJ.order {m g n : T4} (h : CJ m g n) : moO m = moO n := by
  have dm := (prp_iff.1 (show prp (m.1, m.2.1, m.2.2.1, m.2.2.2) = true from h.pm)).2.2.2.2
  have dn := (prp_iff.1 (show prp (n.1, n.2.1, n.2.2.1, n.2.2.2) = true from h.pn)).2.2.2.2
  have ht : n.1 + n.2.2.2 = m.1 + m.2.2.2 := h.t
  unfold moO
  rw [h.pm, h.pn, ← h.kind, ht]
  simp only [if_true]
  by_cases hk : knd m.1 m.2.1 m.2.2.1 m.2.2.2 = 1
  · rw [if_pos hk, if_pos hk]
    have hz : ∀ p q r s : Int, knd p q r s = 1 → q = 0 ∧ r = 0 := fun p q r s hx => by
      unfold knd at hx
      split at hx
      · assumption
      · split at hx
        · cases hx
        · split at hx <;> cases hx
    have a := central dm (hz _ _ _ _ hk).1 (hz _ _ _ _ hk).2
    have hk' := hk
    rw [h.kind] at hk'
    have b := central dn (hz _ _ _ _ hk').1 (hz _ _ _ _ hk').2
    have : m.1 = n.1 := by omega
    rw [this]
  · rw [if_neg hk, if_neg hk]

/-- Powers. -/
def pwT (m : T4) : Nat → T4
  | 0 => (1, 0, 0, 1)
  | k + 1 => mulT (pwT m k) m
structure PO (m : T4) (k : Nat) : Prop where
  one : pwT m k = (1, 0, 0, 1)
  num : ∀ j, j ≤ k → numT (pwT m j) = true
theorem pw_order {p q r s : Int} (h : prp (p, q, r, s) = true) (h0 : 0 < moO (p, q, r, s)) : PO (p, q, r, s) (moO (p, q, r, s)).toNat ∧ moO (p, q, r, s) ≤ 6 := by
  obtain ⟨b1, b2, b3, b4, hd⟩ := prp_iff.1 h
  have hn := prp_num h
  have n1 : numT (1, 0, 0, 1) = true := by decide
  have nm : numT (-1, 0, 0, -1) = true := by decide
  have x1 : pwT (p, q, r, s) 1 = (p, q, r, s) := by
    show mulT (1, 0, 0, 1) (p, q, r, s) = _
    rw [mulT_ex n1 hn]
    simp
  by_cases k1 : knd p q r s = 1
  · have hz : q = 0 ∧ r = 0 := by
      unfold knd at k1
      split at k1
      · assumption
      · split at k1
        · cases k1
        · split at k1 <;> cases k1
    have hm : moO (p, q, r, s) = (3 - p) / 2 := by simp only [moO, h, if_true, k1]
    obtain ⟨rfl, rfl⟩ := hz
    rcases central hd rfl rfl with ⟨rfl, rfl⟩ | ⟨rfl, rfl⟩
    · rw [hm]
      refine ⟨⟨x1, fun j hj => ?_⟩, by decide⟩
      have : j = 0 ∨ j = 1 := by
        have : ((3 - 1 : Int) / 2).toNat = 1 := by decide
        omega
      rcases this with rfl | rfl
      · exact n1
      · rw [x1]; exact n1
    · rw [hm]
      have x2 : pwT (-1, 0, 0, -1) 2 = (1, 0, 0, 1) := by
        rw [pwT, x1, mulT_ex nm nm]; decide
      refine ⟨⟨x2, fun j hj => ?_⟩, by decide⟩
      have : j = 0 ∨ j = 1 ∨ j = 2 := by
        have : ((3 - -1 : Int) / 2).toNat = 2 := by decide
        omega
      rcases this with rfl | rfl | rfl
      · exact n1
      · rw [x1]; exact nm
      · rw [x2]; exact n1
  by_cases k2 : knd p q r s = 2
  · have hm := moO_e h k2
    have hn' : ∀ {x y z w : Int}, N6b x → N6b y → N6b z → N6b w → numT (x, y, z, w) = true := fun a b c d => numT_iff.2 ⟨a, b, c, d⟩
    rcases knd_two k2 with ht | ht | ht
    · rw [if_pos ht] at hm
      have n2 : numT (s, -q, -r, p) = true := hn' b4 (by unfold N6b; omega) (by unfold N6b; omega) b1
      have hs : s = -1 - p := by omega
      have x2 : pwT (p, q, r, s) 2 = (s, -q, -r, p) := by
        rw [pwT, x1, mulT_ex hn hn]
        simp only [Prod.mk.injEq]
        subst hs
        refine ⟨?_, ?_, ?_, ?_⟩ <;> grind
      have x3 : pwT (p, q, r, s) 3 = (1, 0, 0, 1) := by
        rw [pwT, x2, mulT_ex n2 hn]
        simp only [Prod.mk.injEq]
        refine ⟨?_, ?_, ?_, ?_⟩ <;> grind
      rw [hm]
      refine ⟨⟨x3, fun j hj => ?_⟩, by decide⟩
      have : j = 0 ∨ j = 1 ∨ j = 2 ∨ j = 3 := by
        have : (3 : Int).toNat = 3 := rfl
        omega
      rcases this with rfl | rfl | rfl | rfl
      · exact n1
      · rw [x1]; exact hn
      · rw [x2]; exact n2
      · rw [x3]; exact n1
    · rw [if_neg (by omega), if_pos ht] at hm
      have hs : s = -p := by omega
      have x2 : pwT (p, q, r, s) 2 = (-1, 0, 0, -1) := by
        rw [pwT, x1, mulT_ex hn hn]
        simp only [Prod.mk.injEq]
        subst hs
        refine ⟨?_, ?_, ?_, ?_⟩ <;> grind
      have n3 : numT (-p, -q, -r, -s) = true := hn' (by unfold N6b; omega) (by unfold N6b; omega) (by unfold N6b; omega) (by unfold N6b; omega)
      have x3 : pwT (p, q, r, s) 3 = (-p, -q, -r, -s) := by
        rw [pwT, x2, mulT_ex nm hn]
        simp only [Prod.mk.injEq]
        refine ⟨?_, ?_, ?_, ?_⟩ <;> grind
      have x4 : pwT (p, q, r, s) 4 = (1, 0, 0, 1) := by
        rw [pwT, x3, mulT_ex n3 hn]
        simp only [Prod.mk.injEq]
        subst hs
        refine ⟨?_, ?_, ?_, ?_⟩ <;> grind
      rw [hm]
      refine ⟨⟨x4, fun j hj => ?_⟩, by decide⟩
      have : j = 0 ∨ j = 1 ∨ j = 2 ∨ j = 3 ∨ j = 4 := by
        have : (4 : Int).toNat = 4 := rfl
        omega
      rcases this with rfl | rfl | rfl | rfl | rfl
      · exact n1
      · rw [x1]; exact hn
      · rw [x2]; exact nm
      · rw [x3]; exact n3
      · rw [x4]; exact n1
    · rw [if_neg (by omega), if_neg (by omega)] at hm
      have hs : s = 1 - p := by omega
      have n2 : numT (-s, q, r, -p) = true := hn' (by unfold N6b; omega) b2 b3 (by unfold N6b; omega)
      have x2 : pwT (p, q, r, s) 2 = (-s, q, r, -p) := by
        rw [pwT, x1, mulT_ex hn hn]
        simp only [Prod.mk.injEq]
        subst hs
        refine ⟨?_, ?_, ?_, ?_⟩ <;> grind
      have x3 : pwT (p, q, r, s) 3 = (-1, 0, 0, -1) := by
        rw [pwT, x2, mulT_ex n2 hn]
        simp only [Prod.mk.injEq]
        refine ⟨?_, ?_, ?_, ?_⟩ <;> grind
      have n4 : numT (-p, -q, -r, -s) = true := hn' (by unfold N6b; omega) (by unfold N6b; omega) (by unfold N6b; omega) (by unfold N6b; omega)
      have x4 : pwT (p, q, r, s) 4 = (-p, -q, -r, -s) := by
        rw [pwT, x3, mulT_ex nm hn]
        simp only [Prod.mk.injEq]
        refine ⟨?_, ?_, ?_, ?_⟩ <;> grind
      have n5 : numT (s, -q, -r, p) = true := hn' b4 (by unfold N6b; omega) (by unfold N6b; omega) b1
      have x5 : pwT (p, q, r, s) 5 = (s, -q, -r, p) := by
        rw [pwT, x4, mulT_ex n4 hn]
        simp only [Prod.mk.injEq]
        subst hs
        refine ⟨?_, ?_, ?_, ?_⟩ <;> grind
      have x6 : pwT (p, q, r, s) 6 = (1, 0, 0, 1) := by
        rw [pwT, x5, mulT_ex n5 hn]
        simp only [Prod.mk.injEq]
        refine ⟨?_, ?_, ?_, ?_⟩ <;> grind
      rw [hm]
      refine ⟨⟨x6, fun j hj => ?_⟩, by decide⟩
      have : j = 0 ∨ j = 1 ∨ j = 2 ∨ j = 3 ∨ j = 4 ∨ j = 5 ∨ j = 6 := by
        have : (6 : Int).toNat = 6 := rfl
        omega
      rcases this with rfl | rfl | rfl | rfl | rfl | rfl | rfl
      · exact n1
      · rw [x1]; exact hn
      · rw [x2]; exact n2
      · rw [x3]; exact nm
      · rw [x4]; exact n4
      · rw [x5]; exact n5
      · rw [x6]; exact n1
  · rw [moO_o k1 k2] at h0
    omega

/-- The fixed form is fixed. -/
theorem fx_fix {p q r s : Int} (h : p * s - q * r = 1) : sub3 (fxT (p, q, r, s)) p q r s = fxT (p, q, r, s) := by
  simp only [sub3, fxT, Prod.mk.injEq]
  refine ⟨?_, ?_, ?_⟩ <;> grind

end Go.Proofs.Ytdgfnmkiabjfnaa

/-! The machine's integers: sums and products modulo its size. -/
namespace Go.Proofs.Ytdgfnmkiabjfnaa
open Go.RowKit

/-- Congruent modulo the machine's size. -/
def cg (x y : Int) : Prop := ∃ t, x - y = 18446744073709551616 * t
theorem cg_refl (x : Int) : cg x x := ⟨0, by omega⟩
theorem cg_wrap (x : Int) : cg (wrap64 x) x := by
  refine ⟨(wrap64 x - x) / 18446744073709551616, ?_⟩
  unfold wrap64
  omega
theorem cg_iff {x y : Int} : wrap64 x = wrap64 y ↔ cg x y := by
  constructor
  · intro h
    obtain ⟨s, hs⟩ := cg_wrap x
    obtain ⟨t, ht⟩ := cg_wrap y
    exact ⟨t - s, by rw [Int.mul_sub]; omega⟩
  · rintro ⟨t, ht⟩
    unfold wrap64
    omega
theorem cg_add {x y z w : Int} (h : cg x y) (h2 : cg z w) : cg (x + z) (y + w) := by
  obtain ⟨s, hs⟩ := h
  obtain ⟨t, ht⟩ := h2
  exact ⟨s + t, by rw [Int.mul_add]; omega⟩
theorem cg_mul {x y z w : Int} (h : cg x y) (h2 : cg z w) : cg (x * z) (y * w) := by
  obtain ⟨s, hs⟩ := h
  obtain ⟨t, ht⟩ := h2
  exact ⟨s * z + y * t, by grind⟩
theorem W_addl (x y : Int) : wrap64 (wrap64 x + y) = wrap64 (x + y) := cg_iff.2 (cg_add (cg_wrap x) (cg_refl y))
theorem W_addr (x y : Int) : wrap64 (x + wrap64 y) = wrap64 (x + y) := cg_iff.2 (cg_add (cg_refl x) (cg_wrap y))
theorem W_subl (x y : Int) : wrap64 (wrap64 x - y) = wrap64 (x - y) := by
  rw [Int.sub_eq_add_neg, Int.sub_eq_add_neg]; exact W_addl x (-y)
theorem W_mull (x y : Int) : wrap64 (wrap64 x * y) = wrap64 (x * y) := cg_iff.2 (cg_mul (cg_wrap x) (cg_refl y))
theorem W_mulr (x y : Int) : wrap64 (x * wrap64 y) = wrap64 (x * y) := cg_iff.2 (cg_mul (cg_refl x) (cg_wrap y))
theorem W_idem (x : Int) : wrap64 (wrap64 x) = wrap64 x := cg_iff.2 (cg_wrap x)
end Go.Proofs.Ytdgfnmkiabjfnaa

/-! Drawn inputs: proper matrices, what the law on conjugates draws. -/
namespace Go.Proofs.Ytdgfnmkiabjfnaa
open Go.RowKit
set_option linter.unusedSimpArgs false
set_option linter.unusedVariables false
set_option maxRecDepth 100000
set_option maxHeartbeats 4000000

/-- A chain of so many choices. -/
theorem chainN {α : Type} (N : Nat) (P : Nat → α → Prop) (Q : α → α → Prop) (h : ∀ j x, j < N → P j x → ∃ y, Q x y ∧ P (j + 1) y) (a : α) (h0 : P 0 a) : ∃ f : Nat → α, f 0 = a ∧ ∀ j, (j ≤ N → P j (f j)) ∧ (j < N → Q (f j) (f (j + 1))) := by
  have step : ∀ j (x : { x : α // j ≤ N → P j x }), ∃ y : { y : α // j + 1 ≤ N → P (j + 1) y }, j < N → Q x.1 y.1 := fun j x => by
    by_cases hj : j < N
    · obtain ⟨y, h1, h2⟩ := h j x.1 hj (x.2 (by omega))
      exact ⟨⟨y, fun _ => h2⟩, fun _ => h1⟩
    · exact ⟨⟨x.1, fun hle => absurd hle (by omega)⟩, fun hlt => absurd hlt hj⟩
  let F : (j : Nat) → { x : α // j ≤ N → P j x } := fun j => Nat.rec ⟨a, fun _ => h0⟩ (fun j x => Classical.choose (step j x)) j
  exact ⟨fun j => (F j).1, rfl, fun j => ⟨(F j).2, Classical.choose_spec (step j (F j))⟩⟩

structure PrQ (v : Value) (l : List Int) (x y : T4 × Int × Int) : Prop where
  ex : ∃ t s1 u, AFun Try.prog 42 [Cx v l x.2] [P0, I 9] (I t) [Cx v l s1] [] ∧ AFun Try.prog 42 [Cx v l s1] [P0, I 3] (I u) [Cx v l y.2] [] ∧ (0 ≤ u ∧ (u < 3 ∨ u = 0)) ∧
    y.1 = if u = 0 then mulT x.1 (1, wrap64 (t - 4), 0, 1) else if u = 1 then mulT x.1 (1, 0, wrap64 (t - 4), 1) else mulT x.1 (0, -1, 1, 0)
structure PrP (s : Int × Int) (j : Nat) (x : T4 × Int × Int) : Prop where
  lo : s.1 ≤ x.2.1
  hi : x.2.1 ≤ s.1 + 4 * j
  a : I64 x.1.1
  b : I64 x.1.2.1
  c : I64 x.1.2.2.1
  d : I64 x.1.2.2.2
theorem I64_mul (m n : T4) : I64 (mulT m n).1 ∧ I64 (mulT m n).2.1 ∧ I64 (mulT m n).2.2.1 ∧ I64 (mulT m n).2.2.2 := ⟨I64_wrap _, I64_wrap _, I64_wrap _, I64_wrap _⟩

theorem proper_ex (v : Value) (l : List Int) (hl : BysOk l) (s : Int × Int) (hs : Cv 1600000000000 s) : ∃ (m : T4) (s' : Int × Int), (I64 m.1 ∧ I64 m.2.1 ∧ I64 m.2.2.1 ∧ I64 m.2.2.2) ∧ (s.1 ≤ s'.1 ∧ s'.1 ≤ s.1 + 30) ∧ AFun Try.prog 18 [Cx v l s] [P0] (Ma m.1 m.2.1 m.2.2.1 m.2.2.2) [Cx v l s'] [] := by
  obtain ⟨k, s0, a1, a2, a3⟩ := pick_ex v l hl 6 (by omega) s ⟨hs.1, by have := hs.2; omega⟩
  have c1 := cv_next hs a2 (K := 1600000000002) (by omega)
  obtain ⟨f, f0, hf⟩ := chainN (α := T4 × Int × Int) 10 (PrP s0) (PrQ v l) (fun j x hj hP => by
    obtain ⟨t, s1, b1, b2, b3⟩ := pick_ex v l hl 9 (by omega) x.2 ⟨by have := hP.lo; have := c1.1; omega, by have := hP.hi; have := c1.2; omega⟩
    obtain ⟨u, s2, d1, d2, d3⟩ := pick_ex v l hl 3 (by omega) s1 ⟨by have := hP.lo; have := c1.1; omega, by have := hP.hi; have := c1.2; omega⟩
    refine ⟨(if u = 0 then mulT x.1 (1, wrap64 (t - 4), 0, 1) else if u = 1 then mulT x.1 (1, 0, wrap64 (t - 4), 1) else mulT x.1 (0, -1, 1, 0), s2), ⟨t, s1, u, b3, d3, d1, rfl⟩, ?_⟩
    have key : ∀ m : T4, I64 m.1 ∧ I64 m.2.1 ∧ I64 m.2.2.1 ∧ I64 m.2.2.2 → PrP s0 (j + 1) (m, s2) := fun m hm => ⟨by have := hP.lo; dsimp only; omega, by have := hP.hi; dsimp only; omega, hm.1, hm.2.1, hm.2.2.1, hm.2.2.2⟩
    split
    · exact key _ (I64_mul _ _)
    · split
      · exact key _ (I64_mul _ _)
      · exact key _ (I64_mul _ _)) ((1, 0, 0, 1), s0) ⟨by dsimp only; omega, by dsimp only; omega, I64_small (by simp) (by simp), I64_small (by simp) (by simp), I64_small (by simp) (by simp), I64_small (by simp) (by simp)⟩
  have hk := (hf k.toNat).1 (by omega)
  refine ⟨(f k.toNat).1, (f k.toNat).2, ⟨hk.a, hk.b, hk.c, hk.d⟩, ⟨by have := hk.lo; omega, by have := hk.hi; omega⟩, ?_⟩
  clear hk
  have hf2 : ∀ j : Nat, j < 10 → PrQ v l (f j) (f (j + 1)) := fun j hj => (hf j).2 hj
  clear hf
  refine afun_intro fn18 rfl rfl (by repeat' (first | exact trivial | (simp; done) | refine ⟨?_, ?_⟩)) ?_
  unfold ac18
  repeat' (first | ((with_reducible refine (?_ : (_ : Bool) = _)); (with_reducible rfl)) | ((with_reducible refine (?_ : (_ : Nat × Nat) = _)); (with_reducible rfl)) | (with_reducible refine leafRI ?_) | (with_reducible refine leafRB ?_) | (with_reducible refine leafI ?_) | (with_reducible refine leafB ?_) | ((with_reducible refine (?_ : (_ : Int) = _)); (with_reducible rfl)) | ((with_reducible refine (?_ : (_ : List (List Value)) = _)); (with_reducible rfl)) | ((with_reducible refine (?_ : (_ : Int) ≠ 0)); (first | assumption | omega | (simp; done) | (simp only [ints_len] at *; omega) | (simp; omega))) | ((with_reducible refine (?_ : (_ : Int) ≤ _)); (first | assumption | omega | (simp; done) | (simp only [ints_len] at *; omega) | (simp; omega))) | ((with_reducible refine (?_ : (_ : Int) < _)); (first | assumption | omega | (simp; done) | (simp only [ints_len] at *; omega) | (simp; omega))) | ((with_reducible refine (?_ : (_ : Nat) ≤ _)); (first | omega | (simp only [List.length_cons, List.length_nil]; omega) | (simp [ints]; done) | (simp; omega))) | ((with_reducible refine (?_ : (_ : Nat) < _)); (first | omega | (simp only [List.length_cons, List.length_nil]; omega) | (simp [ints]; done) | (simp; omega))) | ((with_reducible refine (?_ : (_ : Nat) = _)); (first | (with_reducible rfl) | (simp; done) | (simp only [fr_len]) | (simp only [ints_len]) | omega | (simp [*]; done))) | (refine And.intro ?_ ?_) | (intro h; first | (exact Bool.noConfusion h) | ((simp only [decide_eq_true_eq, decide_eq_false_iff_not, beq_iff_eq, bne_iff_ne, ne_eq, beq_eq_false_iff_ne, bne_eq_false_iff_eq, Bool.not_eq_true', Bool.not_eq_false', Bool.not_eq_true, Bool.not_eq_false, Int.not_le, Int.not_lt, Bool.and_eq_true, Bool.or_eq_true, Bool.or_eq_false_iff, Bool.and_eq_false_iff] at h); (try (first | (exact Bool.noConfusion h) | (exact (h trivial).elim)))) | skip) | ((refine (?_ : ACall _ _ _ _ _ _ _)); first | ((apply abox (a3)); (focus (exact rfl)); (focus (exact rfl)); (focus (exact rfl)); (focus (repeat' (first | exact rfl | (refine And.intro ?_ ?_) | (simp; done) | omega))); (focus (repeat' (first | exact trivial | exact rfl | (refine And.intro ?_ ?_)))))) | ((with_reducible refine (?_ : chk _ _ = true)); kernel_rfl) | ((with_reducible refine (?_ : (_ : IntKind) = _)); (with_reducible rfl)) | ((with_reducible refine (?_ : eqC (C.pvw _ _ _) (C.pvw _ _ _))); exact rfl) | ((with_reducible refine (?_ : eqC (C.pv (Value.int IntKind.u64 _)) _)); exact rfl) | exact trivial)
  refine loop_rule (σ := Int × Nat × (Int × Int × Int × Int) × (Int × Int)) (fun s => [(4, I s.1)]) (fun s => [((0, 0), Cx v l s.2.2.2), ((2, 0), .bx [cI 0, cI 0, cI 0, cI 0]), ((3, 0), .bx [cI s.2.2.1.1, cI s.2.2.1.2.1, cI s.2.2.1.2.2.1, cI s.2.2.1.2.2.2])]) (fun s => 0 ≤ s.1 ∧ s.1 + s.2.1 = k ∧ (s.2.2.1, s.2.2.2) = f s.2.1) (fun s => s.1.toNat) ((k, 0, (1, 0, 0, 1), s0)) ?_ (by repeat' (first | exact trivial | exact rfl | (refine And.intro ?_ ?_))) (by repeat' (first | exact trivial | exact rfl | (refine And.intro ?_ ?_))) (fun s => ⟨rfl, rfl⟩) (fun s i h => by first | exact absurd h (Nat.not_lt_zero i) | (cases i with | zero => rfl | succ i => exact absurd (Nat.lt_of_succ_lt_succ h) (Nat.not_lt_zero i))) ?_
  · exact ⟨by dsimp only; omega, by dsimp only; omega, f0.symm⟩
  rintro ⟨i, j, ⟨p, q, r, d⟩, ⟨c, sd⟩⟩ ⟨g1, g2, g3⟩
  dsimp only at g1 g2 g3 ⊢
  have w1 : wrap64 (i - 1) = i - 1 := wrap_small (by omega) (by omega)
  by_cases hi : 0 < i
  · obtain ⟨t, s1, u, b1, b2, b3, b4⟩ := (hf2 j (by omega)).ex
    rw [← g3] at b1 b4
    dsimp only at b1 b4
    generalize hy : f (j + 1) = y at *
    obtain ⟨⟨y1, y2, y3, y4⟩, ⟨y5, y6⟩⟩ := y
    dsimp only at b2 b4
    have hu : u = 0 ∨ u = 1 ∨ u = 2 := by omega
    rcases hu with rfl | rfl | rfl
    · rw [if_pos rfl] at b4
      repeat' (first | ((with_reducible refine (?_ : (_ : Bool) = _)); (with_reducible rfl)) | ((with_reducible refine (?_ : (_ : Nat × Nat) = _)); (with_reducible rfl)) | (with_reducible refine leafRI ?_) | (with_reducible refine leafRB ?_) | (with_reducible refine leafI ?_) | (with_reducible refine leafB ?_) | ((with_reducible refine (?_ : (_ : Int) = _)); (with_reducible rfl)) | ((with_reducible refine (?_ : (_ : List (List Value)) = _)); (with_reducible rfl)) | ((with_reducible refine (?_ : (_ : Int) ≠ 0)); (first | assumption | omega | (simp; done) | (simp only [ints_len] at *; omega) | (simp; omega))) | ((with_reducible refine (?_ : (_ : Int) ≤ _)); (first | assumption | omega | (simp; done) | (simp only [ints_len] at *; omega) | (simp; omega))) | ((with_reducible refine (?_ : (_ : Int) < _)); (first | assumption | omega | (simp; done) | (simp only [ints_len] at *; omega) | (simp; omega))) | ((with_reducible refine (?_ : (_ : Nat) ≤ _)); (first | omega | (simp only [List.length_cons, List.length_nil]; omega) | (simp [ints]; done) | (simp; omega))) | ((with_reducible refine (?_ : (_ : Nat) < _)); (first | omega | (simp only [List.length_cons, List.length_nil]; omega) | (simp [ints]; done) | (simp; omega))) | ((with_reducible refine (?_ : (_ : Nat) = _)); (first | (with_reducible rfl) | (simp; done) | (simp only [fr_len]) | (simp only [ints_len]) | omega | (simp [*]; done))) | (refine And.intro ?_ ?_) | (intro h; first | (exact Bool.noConfusion h) | ((simp only [decide_eq_true_eq, decide_eq_false_iff_not, beq_iff_eq, bne_iff_ne, ne_eq, beq_eq_false_iff_ne, bne_eq_false_iff_eq, Bool.not_eq_true', Bool.not_eq_false', Bool.not_eq_true, Bool.not_eq_false, Int.not_le, Int.not_lt, Bool.and_eq_true, Bool.or_eq_true, Bool.or_eq_false_iff, Bool.and_eq_false_iff] at h); (try (exfalso; omega))) | skip) | ((refine (?_ : ACall _ _ _ _ _ _ _)); first | ((apply abox (b1)); (focus (exact rfl)); (focus (exact rfl)); (focus (exact rfl)); (focus (repeat' (first | exact rfl | (refine And.intro ?_ ?_) | (simp; done) | omega))); (focus (repeat' (first | exact trivial | exact rfl | (refine And.intro ?_ ?_))))) | ((apply abox (b2)); (focus (exact rfl)); (focus (exact rfl)); (focus (exact rfl)); (focus (repeat' (first | exact rfl | (refine And.intro ?_ ?_) | (simp; done) | omega))); (focus (repeat' (first | exact trivial | exact rfl | (refine And.intro ?_ ?_))))) | ((apply acall (spec_foMul _ _ _ _ _ _ _ _)); (focus (repeat' (first | exact rfl | (refine And.intro ?_ ?_) | (simp only [ints_len]; done) | (simp; done) | omega))))) | ((with_reducible refine (?_ : chk _ _ = true)); kernel_rfl) | ((with_reducible refine (?_ : (_ : IntKind) = _)); (with_reducible rfl)) | ((with_reducible refine (?_ : eqC (C.pvw _ _ _) (C.pvw _ _ _))); exact rfl) | ((with_reducible refine (?_ : eqC (C.pv (Value.int IntKind.u64 _)) _)); exact rfl) | exact trivial)
      refine ⟨(_, j + 1, (_, _, _, _), (_, _)), ?_, ?_, none, And.intro rfl (And.intro (by repeat' (first | exact trivial | exact rfl | (refine And.intro ?_ ?_))) (by repeat' (first | exact trivial | exact rfl | (refine And.intro ?_ ?_))))⟩
      · dsimp only
        rw [w1]
        exact ⟨by omega, by omega, by rw [hy, b4]; rfl⟩
      · dsimp only
        rw [w1]; omega
    · rw [if_neg (by omega), if_pos rfl] at b4
      repeat' (first | ((with_reducible refine (?_ : (_ : Bool) = _)); (with_reducible rfl)) | ((with_reducible refine (?_ : (_ : Nat × Nat) = _)); (with_reducible rfl)) | (with_reducible refine leafRI ?_) | (with_reducible refine leafRB ?_) | (with_reducible refine leafI ?_) | (with_reducible refine leafB ?_) | ((with_reducible refine (?_ : (_ : Int) = _)); (with_reducible rfl)) | ((with_reducible refine (?_ : (_ : List (List Value)) = _)); (with_reducible rfl)) | ((with_reducible refine (?_ : (_ : Int) ≠ 0)); (first | assumption | omega | (simp; done) | (simp only [ints_len] at *; omega) | (simp; omega))) | ((with_reducible refine (?_ : (_ : Int) ≤ _)); (first | assumption | omega | (simp; done) | (simp only [ints_len] at *; omega) | (simp; omega))) | ((with_reducible refine (?_ : (_ : Int) < _)); (first | assumption | omega | (simp; done) | (simp only [ints_len] at *; omega) | (simp; omega))) | ((with_reducible refine (?_ : (_ : Nat) ≤ _)); (first | omega | (simp only [List.length_cons, List.length_nil]; omega) | (simp [ints]; done) | (simp; omega))) | ((with_reducible refine (?_ : (_ : Nat) < _)); (first | omega | (simp only [List.length_cons, List.length_nil]; omega) | (simp [ints]; done) | (simp; omega))) | ((with_reducible refine (?_ : (_ : Nat) = _)); (first | (with_reducible rfl) | (simp; done) | (simp only [fr_len]) | (simp only [ints_len]) | omega | (simp [*]; done))) | (refine And.intro ?_ ?_) | (intro h; first | (exact Bool.noConfusion h) | ((simp only [decide_eq_true_eq, decide_eq_false_iff_not, beq_iff_eq, bne_iff_ne, ne_eq, beq_eq_false_iff_ne, bne_eq_false_iff_eq, Bool.not_eq_true', Bool.not_eq_false', Bool.not_eq_true, Bool.not_eq_false, Int.not_le, Int.not_lt, Bool.and_eq_true, Bool.or_eq_true, Bool.or_eq_false_iff, Bool.and_eq_false_iff] at h); (try (exfalso; omega))) | skip) | ((refine (?_ : ACall _ _ _ _ _ _ _)); first | ((apply abox (b1)); (focus (exact rfl)); (focus (exact rfl)); (focus (exact rfl)); (focus (repeat' (first | exact rfl | (refine And.intro ?_ ?_) | (simp; done) | omega))); (focus (repeat' (first | exact trivial | exact rfl | (refine And.intro ?_ ?_))))) | ((apply abox (b2)); (focus (exact rfl)); (focus (exact rfl)); (focus (exact rfl)); (focus (repeat' (first | exact rfl | (refine And.intro ?_ ?_) | (simp; done) | omega))); (focus (repeat' (first | exact trivial | exact rfl | (refine And.intro ?_ ?_))))) | ((apply acall (spec_foMul _ _ _ _ _ _ _ _)); (focus (repeat' (first | exact rfl | (refine And.intro ?_ ?_) | (simp only [ints_len]; done) | (simp; done) | omega))))) | ((with_reducible refine (?_ : chk _ _ = true)); kernel_rfl) | ((with_reducible refine (?_ : (_ : IntKind) = _)); (with_reducible rfl)) | ((with_reducible refine (?_ : eqC (C.pvw _ _ _) (C.pvw _ _ _))); exact rfl) | ((with_reducible refine (?_ : eqC (C.pv (Value.int IntKind.u64 _)) _)); exact rfl) | exact trivial)
      refine ⟨(_, j + 1, (_, _, _, _), (_, _)), ?_, ?_, none, And.intro rfl (And.intro (by repeat' (first | exact trivial | exact rfl | (refine And.intro ?_ ?_))) (by repeat' (first | exact trivial | exact rfl | (refine And.intro ?_ ?_))))⟩
      · dsimp only
        rw [w1]
        exact ⟨by omega, by omega, by rw [hy, b4]; rfl⟩
      · dsimp only
        rw [w1]; omega
    · rw [if_neg (by omega), if_neg (by omega)] at b4
      repeat' (first | ((with_reducible refine (?_ : (_ : Bool) = _)); (with_reducible rfl)) | ((with_reducible refine (?_ : (_ : Nat × Nat) = _)); (with_reducible rfl)) | (with_reducible refine leafRI ?_) | (with_reducible refine leafRB ?_) | (with_reducible refine leafI ?_) | (with_reducible refine leafB ?_) | ((with_reducible refine (?_ : (_ : Int) = _)); (with_reducible rfl)) | ((with_reducible refine (?_ : (_ : List (List Value)) = _)); (with_reducible rfl)) | ((with_reducible refine (?_ : (_ : Int) ≠ 0)); (first | assumption | omega | (simp; done) | (simp only [ints_len] at *; omega) | (simp; omega))) | ((with_reducible refine (?_ : (_ : Int) ≤ _)); (first | assumption | omega | (simp; done) | (simp only [ints_len] at *; omega) | (simp; omega))) | ((with_reducible refine (?_ : (_ : Int) < _)); (first | assumption | omega | (simp; done) | (simp only [ints_len] at *; omega) | (simp; omega))) | ((with_reducible refine (?_ : (_ : Nat) ≤ _)); (first | omega | (simp only [List.length_cons, List.length_nil]; omega) | (simp [ints]; done) | (simp; omega))) | ((with_reducible refine (?_ : (_ : Nat) < _)); (first | omega | (simp only [List.length_cons, List.length_nil]; omega) | (simp [ints]; done) | (simp; omega))) | ((with_reducible refine (?_ : (_ : Nat) = _)); (first | (with_reducible rfl) | (simp; done) | (simp only [fr_len]) | (simp only [ints_len]) | omega | (simp [*]; done))) | (refine And.intro ?_ ?_) | (intro h; first | (exact Bool.noConfusion h) | ((simp only [decide_eq_true_eq, decide_eq_false_iff_not, beq_iff_eq, bne_iff_ne, ne_eq, beq_eq_false_iff_ne, bne_eq_false_iff_eq, Bool.not_eq_true', Bool.not_eq_false', Bool.not_eq_true, Bool.not_eq_false, Int.not_le, Int.not_lt, Bool.and_eq_true, Bool.or_eq_true, Bool.or_eq_false_iff, Bool.and_eq_false_iff] at h); (try (exfalso; omega))) | skip) | ((refine (?_ : ACall _ _ _ _ _ _ _)); first | ((apply abox (b1)); (focus (exact rfl)); (focus (exact rfl)); (focus (exact rfl)); (focus (repeat' (first | exact rfl | (refine And.intro ?_ ?_) | (simp; done) | omega))); (focus (repeat' (first | exact trivial | exact rfl | (refine And.intro ?_ ?_))))) | ((apply abox (b2)); (focus (exact rfl)); (focus (exact rfl)); (focus (exact rfl)); (focus (repeat' (first | exact rfl | (refine And.intro ?_ ?_) | (simp; done) | omega))); (focus (repeat' (first | exact trivial | exact rfl | (refine And.intro ?_ ?_))))) | ((apply acall (spec_foMul _ _ _ _ _ _ _ _)); (focus (repeat' (first | exact rfl | (refine And.intro ?_ ?_) | (simp only [ints_len]; done) | (simp; done) | omega))))) | ((with_reducible refine (?_ : chk _ _ = true)); kernel_rfl) | ((with_reducible refine (?_ : (_ : IntKind) = _)); (with_reducible rfl)) | ((with_reducible refine (?_ : eqC (C.pvw _ _ _) (C.pvw _ _ _))); exact rfl) | ((with_reducible refine (?_ : eqC (C.pv (Value.int IntKind.u64 _)) _)); exact rfl) | exact trivial)
      refine ⟨(_, j + 1, (_, _, _, _), (_, _)), ?_, ?_, none, And.intro rfl (And.intro (by repeat' (first | exact trivial | exact rfl | (refine And.intro ?_ ?_))) (by repeat' (first | exact trivial | exact rfl | (refine And.intro ?_ ?_))))⟩
      · dsimp only
        rw [w1]
        exact ⟨by omega, by omega, by rw [hy, b4]; rfl⟩
      · dsimp only
        rw [w1]; omega
  · have hj : k.toNat = j := by omega
    rw [hj, ← g3]
    repeat' (first | ((with_reducible refine (?_ : (_ : Bool) = _)); (with_reducible rfl)) | ((with_reducible refine (?_ : (_ : Nat × Nat) = _)); (with_reducible rfl)) | (with_reducible refine leafRI ?_) | (with_reducible refine leafRB ?_) | (with_reducible refine leafI ?_) | (with_reducible refine leafB ?_) | ((with_reducible refine (?_ : (_ : Int) = _)); (with_reducible rfl)) | ((with_reducible refine (?_ : (_ : List (List Value)) = _)); (with_reducible rfl)) | ((with_reducible refine (?_ : (_ : Int) ≠ 0)); (first | assumption | omega | (simp; done) | (simp only [ints_len] at *; omega) | (simp; omega))) | ((with_reducible refine (?_ : (_ : Int) ≤ _)); (first | assumption | omega | (simp; done) | (simp only [ints_len] at *; omega) | (simp; omega))) | ((with_reducible refine (?_ : (_ : Int) < _)); (first | assumption | omega | (simp; done) | (simp only [ints_len] at *; omega) | (simp; omega))) | ((with_reducible refine (?_ : (_ : Nat) ≤ _)); (first | omega | (simp only [List.length_cons, List.length_nil]; omega) | (simp [ints]; done) | (simp; omega))) | ((with_reducible refine (?_ : (_ : Nat) < _)); (first | omega | (simp only [List.length_cons, List.length_nil]; omega) | (simp [ints]; done) | (simp; omega))) | ((with_reducible refine (?_ : (_ : Nat) = _)); (first | (with_reducible rfl) | (simp; done) | (simp only [fr_len]) | (simp only [ints_len]) | omega | (simp [*]; done))) | (refine And.intro ?_ ?_) | (intro h; first | (exact Bool.noConfusion h) | ((simp only [decide_eq_true_eq, decide_eq_false_iff_not, beq_iff_eq, bne_iff_ne, ne_eq, beq_eq_false_iff_ne, bne_eq_false_iff_eq, Bool.not_eq_true', Bool.not_eq_false', Bool.not_eq_true, Bool.not_eq_false, Int.not_le, Int.not_lt, Bool.and_eq_true, Bool.or_eq_true, Bool.or_eq_false_iff, Bool.and_eq_false_iff] at h); (try (exfalso; omega))) | skip) | ((with_reducible refine (?_ : chk _ _ = true)); kernel_rfl) | ((with_reducible refine (?_ : (_ : IntKind) = _)); (with_reducible rfl)) | ((with_reducible refine (?_ : eqC (C.pvw _ _ _) (C.pvw _ _ _))); exact rfl) | ((with_reducible refine (?_ : eqC (C.pv (Value.int IntKind.u64 _)) _)); exact rfl) | exact trivial)

theorem matrix_ex (v : Value) (l : List Int) (hl : BysOk l) (s : Int × Int) (hs : Cv 1500000000000 s) : ∃ (m : T4) (s' : Int × Int), (I64 m.1 ∧ I64 m.2.1 ∧ I64 m.2.2.1 ∧ I64 m.2.2.2) ∧ (s.1 ≤ s'.1 ∧ s'.1 ≤ s.1 + 80) ∧ AFun Try.prog 43 [Cx v l s] [P0] (Ma m.1 m.2.1 m.2.2.1 m.2.2.2) [Cx v l s'] [] := by
  obtain ⟨⟨p, q, r, d⟩, s1, a1, a2, a3⟩ := proper_ex v l hl s ⟨hs.1, by have := hs.2; omega⟩
  have c1 := cv_next hs a2 (K := 1600000000000) (by omega)
  obtain ⟨k, s2, b1, b2, b3⟩ := pick_ex v l hl 10 (by omega) s1 ⟨c1.1, by have := c1.2; omega⟩
  have c2 := cv_next c1 b2 (K := 1600000000100) (by omega)
  by_cases h0 : k = 0
  · subst h0
    obtain ⟨x, s3, d1, d2, d3⟩ := number_ex v l hl s2 ⟨c2.1, by have := c2.2; omega⟩
    have c3 := cv_next c2 d2 (K := 1600000000200) (by omega)
    obtain ⟨y, s4, e1, e2, e3⟩ := number_ex v l hl s3 ⟨c3.1, by have := c3.2; omega⟩
    have c4 := cv_next c3 e2 (K := 1600000000300) (by omega)
    obtain ⟨z, s5, f1, f2, f3⟩ := number_ex v l hl s4 ⟨c4.1, by have := c4.2; omega⟩
    have c5 := cv_next c4 f2 (K := 1600000000400) (by omega)
    obtain ⟨w, s6, g1, g2, g3⟩ := number_ex v l hl s5 ⟨c5.1, by have := c5.2; omega⟩
    refine ⟨(x, y, z, w), s6, ⟨d1, e1, f1, g1⟩, ⟨by omega, by omega⟩, ?_⟩
    refine afun_intro fn43 rfl rfl (by repeat' (first | exact trivial | (simp; done) | refine ⟨?_, ?_⟩)) ?_
    unfold ac43
    repeat' (first | ((with_reducible refine (?_ : (_ : Bool) = _)); (with_reducible rfl)) | ((with_reducible refine (?_ : (_ : Nat × Nat) = _)); (with_reducible rfl)) | (with_reducible refine leafRI ?_) | (with_reducible refine leafRB ?_) | (with_reducible refine leafI ?_) | (with_reducible refine leafB ?_) | ((with_reducible refine (?_ : (_ : Int) = _)); (with_reducible rfl)) | ((with_reducible refine (?_ : (_ : List (List Value)) = _)); (with_reducible rfl)) | ((with_reducible refine (?_ : (_ : Int) ≠ 0)); (first | assumption | omega | (simp; done) | (simp only [ints_len] at *; omega) | (simp; omega))) | ((with_reducible refine (?_ : (_ : Int) ≤ _)); (first | assumption | omega | (simp; done) | (simp only [ints_len] at *; omega) | (simp; omega))) | ((with_reducible refine (?_ : (_ : Int) < _)); (first | assumption | omega | (simp; done) | (simp only [ints_len] at *; omega) | (simp; omega))) | ((with_reducible refine (?_ : (_ : Nat) ≤ _)); (first | omega | (simp only [List.length_cons, List.length_nil]; omega) | (simp [ints]; done) | (simp; omega))) | ((with_reducible refine (?_ : (_ : Nat) < _)); (first | omega | (simp only [List.length_cons, List.length_nil]; omega) | (simp [ints]; done) | (simp; omega))) | ((with_reducible refine (?_ : (_ : Nat) = _)); (first | (with_reducible rfl) | (simp; done) | (simp only [fr_len]) | (simp only [ints_len]) | omega | (simp [*]; done))) | (refine And.intro ?_ ?_) | (intro h; first | (exact Bool.noConfusion h) | ((simp only [decide_eq_true_eq, decide_eq_false_iff_not, beq_iff_eq, bne_iff_ne, ne_eq, beq_eq_false_iff_ne, bne_eq_false_iff_eq, Bool.not_eq_true', Bool.not_eq_false', Bool.not_eq_true, Bool.not_eq_false, Int.not_le, Int.not_lt, Bool.and_eq_true, Bool.or_eq_true, Bool.or_eq_false_iff, Bool.and_eq_false_iff] at h); (try (exfalso; omega))) | skip) | ((refine (?_ : ACall _ _ _ _ _ _ _)); first | ((apply abox (a3)); (focus (exact rfl)); (focus (exact rfl)); (focus (exact rfl)); (focus (repeat' (first | exact rfl | (refine And.intro ?_ ?_) | (simp; done) | omega))); (focus (repeat' (first | exact trivial | exact rfl | (refine And.intro ?_ ?_))))) | ((apply abox (b3)); (focus (exact rfl)); (focus (exact rfl)); (focus (exact rfl)); (focus (repeat' (first | exact rfl | (refine And.intro ?_ ?_) | (simp; done) | omega))); (focus (repeat' (first | exact trivial | exact rfl | (refine And.intro ?_ ?_))))) | ((apply abox (d3)); (focus (exact rfl)); (focus (exact rfl)); (focus (exact rfl)); (focus (repeat' (first | exact rfl | (refine And.intro ?_ ?_) | (simp; done) | omega))); (focus (repeat' (first | exact trivial | exact rfl | (refine And.intro ?_ ?_))))) | ((apply abox (e3)); (focus (exact rfl)); (focus (exact rfl)); (focus (exact rfl)); (focus (repeat' (first | exact rfl | (refine And.intro ?_ ?_) | (simp; done) | omega))); (focus (repeat' (first | exact trivial | exact rfl | (refine And.intro ?_ ?_))))) | ((apply abox (f3)); (focus (exact rfl)); (focus (exact rfl)); (focus (exact rfl)); (focus (repeat' (first | exact rfl | (refine And.intro ?_ ?_) | (simp; done) | omega))); (focus (repeat' (first | exact trivial | exact rfl | (refine And.intro ?_ ?_))))) | ((apply abox (g3)); (focus (exact rfl)); (focus (exact rfl)); (focus (exact rfl)); (focus (repeat' (first | exact rfl | (refine And.intro ?_ ?_) | (simp; done) | omega))); (focus (repeat' (first | exact trivial | exact rfl | (refine And.intro ?_ ?_)))))) | ((with_reducible refine (?_ : chk _ _ = true)); kernel_rfl) | ((with_reducible refine (?_ : (_ : IntKind) = _)); (with_reducible rfl)) | ((with_reducible refine (?_ : eqC (C.pvw _ _ _) (C.pvw _ _ _))); exact rfl) | ((with_reducible refine (?_ : eqC (C.pv (Value.int IntKind.u64 _)) _)); exact rfl) | exact trivial)
  by_cases h1 : k = 1
  · subst h1
    refine ⟨(q, p, d, r), s2, ⟨a1.2.1, a1.1, a1.2.2.2, a1.2.2.1⟩, ⟨by omega, by omega⟩, ?_⟩
    refine afun_intro fn43 rfl rfl (by repeat' (first | exact trivial | (simp; done) | refine ⟨?_, ?_⟩)) ?_
    unfold ac43
    repeat' (first | ((with_reducible refine (?_ : (_ : Bool) = _)); (with_reducible rfl)) | ((with_reducible refine (?_ : (_ : Nat × Nat) = _)); (with_reducible rfl)) | (with_reducible refine leafRI ?_) | (with_reducible refine leafRB ?_) | (with_reducible refine leafI ?_) | (with_reducible refine leafB ?_) | ((with_reducible refine (?_ : (_ : Int) = _)); (with_reducible rfl)) | ((with_reducible refine (?_ : (_ : List (List Value)) = _)); (with_reducible rfl)) | ((with_reducible refine (?_ : (_ : Int) ≠ 0)); (first | assumption | omega | (simp; done) | (simp only [ints_len] at *; omega) | (simp; omega))) | ((with_reducible refine (?_ : (_ : Int) ≤ _)); (first | assumption | omega | (simp; done) | (simp only [ints_len] at *; omega) | (simp; omega))) | ((with_reducible refine (?_ : (_ : Int) < _)); (first | assumption | omega | (simp; done) | (simp only [ints_len] at *; omega) | (simp; omega))) | ((with_reducible refine (?_ : (_ : Nat) ≤ _)); (first | omega | (simp only [List.length_cons, List.length_nil]; omega) | (simp [ints]; done) | (simp; omega))) | ((with_reducible refine (?_ : (_ : Nat) < _)); (first | omega | (simp only [List.length_cons, List.length_nil]; omega) | (simp [ints]; done) | (simp; omega))) | ((with_reducible refine (?_ : (_ : Nat) = _)); (first | (with_reducible rfl) | (simp; done) | (simp only [fr_len]) | (simp only [ints_len]) | omega | (simp [*]; done))) | (refine And.intro ?_ ?_) | (intro h; first | (exact Bool.noConfusion h) | ((simp only [decide_eq_true_eq, decide_eq_false_iff_not, beq_iff_eq, bne_iff_ne, ne_eq, beq_eq_false_iff_ne, bne_eq_false_iff_eq, Bool.not_eq_true', Bool.not_eq_false', Bool.not_eq_true, Bool.not_eq_false, Int.not_le, Int.not_lt, Bool.and_eq_true, Bool.or_eq_true, Bool.or_eq_false_iff, Bool.and_eq_false_iff] at h); (try (exfalso; omega))) | skip) | ((refine (?_ : ACall _ _ _ _ _ _ _)); first | ((apply abox (a3)); (focus (exact rfl)); (focus (exact rfl)); (focus (exact rfl)); (focus (repeat' (first | exact rfl | (refine And.intro ?_ ?_) | (simp; done) | omega))); (focus (repeat' (first | exact trivial | exact rfl | (refine And.intro ?_ ?_))))) | ((apply abox (b3)); (focus (exact rfl)); (focus (exact rfl)); (focus (exact rfl)); (focus (repeat' (first | exact rfl | (refine And.intro ?_ ?_) | (simp; done) | omega))); (focus (repeat' (first | exact trivial | exact rfl | (refine And.intro ?_ ?_)))))) | ((with_reducible refine (?_ : chk _ _ = true)); kernel_rfl) | ((with_reducible refine (?_ : (_ : IntKind) = _)); (with_reducible rfl)) | ((with_reducible refine (?_ : eqC (C.pvw _ _ _) (C.pvw _ _ _))); exact rfl) | ((with_reducible refine (?_ : eqC (C.pv (Value.int IntKind.u64 _)) _)); exact rfl) | exact trivial)
  by_cases h2 : k = 2
  · subst h2
    obtain ⟨u, s3, d1, d2, d3⟩ := pick_ex v l hl 3 (by omega) s2 ⟨c2.1, by have := c2.2; omega⟩
    refine ⟨(p, wrap64 (q + wrap64 (1 + u)), r, d), s3, ⟨a1.1, I64_wrap _, a1.2.2.1, a1.2.2.2⟩, ⟨by omega, by omega⟩, ?_⟩
    refine afun_intro fn43 rfl rfl (by repeat' (first | exact trivial | (simp; done) | refine ⟨?_, ?_⟩)) ?_
    unfold ac43
    repeat' (first | ((with_reducible refine (?_ : (_ : Bool) = _)); (with_reducible rfl)) | ((with_reducible refine (?_ : (_ : Nat × Nat) = _)); (with_reducible rfl)) | (with_reducible refine leafRI ?_) | (with_reducible refine leafRB ?_) | (with_reducible refine leafI ?_) | (with_reducible refine leafB ?_) | ((with_reducible refine (?_ : (_ : Int) = _)); (with_reducible rfl)) | ((with_reducible refine (?_ : (_ : List (List Value)) = _)); (with_reducible rfl)) | ((with_reducible refine (?_ : (_ : Int) ≠ 0)); (first | assumption | omega | (simp; done) | (simp only [ints_len] at *; omega) | (simp; omega))) | ((with_reducible refine (?_ : (_ : Int) ≤ _)); (first | assumption | omega | (simp; done) | (simp only [ints_len] at *; omega) | (simp; omega))) | ((with_reducible refine (?_ : (_ : Int) < _)); (first | assumption | omega | (simp; done) | (simp only [ints_len] at *; omega) | (simp; omega))) | ((with_reducible refine (?_ : (_ : Nat) ≤ _)); (first | omega | (simp only [List.length_cons, List.length_nil]; omega) | (simp [ints]; done) | (simp; omega))) | ((with_reducible refine (?_ : (_ : Nat) < _)); (first | omega | (simp only [List.length_cons, List.length_nil]; omega) | (simp [ints]; done) | (simp; omega))) | ((with_reducible refine (?_ : (_ : Nat) = _)); (first | (with_reducible rfl) | (simp; done) | (simp only [fr_len]) | (simp only [ints_len]) | omega | (simp [*]; done))) | (refine And.intro ?_ ?_) | (intro h; first | (exact Bool.noConfusion h) | ((simp only [decide_eq_true_eq, decide_eq_false_iff_not, beq_iff_eq, bne_iff_ne, ne_eq, beq_eq_false_iff_ne, bne_eq_false_iff_eq, Bool.not_eq_true', Bool.not_eq_false', Bool.not_eq_true, Bool.not_eq_false, Int.not_le, Int.not_lt, Bool.and_eq_true, Bool.or_eq_true, Bool.or_eq_false_iff, Bool.and_eq_false_iff] at h); (try (exfalso; omega))) | skip) | ((refine (?_ : ACall _ _ _ _ _ _ _)); first | ((apply abox (a3)); (focus (exact rfl)); (focus (exact rfl)); (focus (exact rfl)); (focus (repeat' (first | exact rfl | (refine And.intro ?_ ?_) | (simp; done) | omega))); (focus (repeat' (first | exact trivial | exact rfl | (refine And.intro ?_ ?_))))) | ((apply abox (b3)); (focus (exact rfl)); (focus (exact rfl)); (focus (exact rfl)); (focus (repeat' (first | exact rfl | (refine And.intro ?_ ?_) | (simp; done) | omega))); (focus (repeat' (first | exact trivial | exact rfl | (refine And.intro ?_ ?_))))) | ((apply abox (d3)); (focus (exact rfl)); (focus (exact rfl)); (focus (exact rfl)); (focus (repeat' (first | exact rfl | (refine And.intro ?_ ?_) | (simp; done) | omega))); (focus (repeat' (first | exact trivial | exact rfl | (refine And.intro ?_ ?_)))))) | ((with_reducible refine (?_ : chk _ _ = true)); kernel_rfl) | ((with_reducible refine (?_ : (_ : IntKind) = _)); (with_reducible rfl)) | ((with_reducible refine (?_ : eqC (C.pvw _ _ _) (C.pvw _ _ _))); exact rfl) | ((with_reducible refine (?_ : eqC (C.pv (Value.int IntKind.u64 _)) _)); exact rfl) | exact trivial)
  · refine ⟨(p, q, r, d), s2, a1, ⟨by omega, by omega⟩, ?_⟩
    refine afun_intro fn43 rfl rfl (by repeat' (first | exact trivial | (simp; done) | refine ⟨?_, ?_⟩)) ?_
    unfold ac43
    repeat' (first | ((with_reducible refine (?_ : (_ : Bool) = _)); (with_reducible rfl)) | ((with_reducible refine (?_ : (_ : Nat × Nat) = _)); (with_reducible rfl)) | (with_reducible refine leafRI ?_) | (with_reducible refine leafRB ?_) | (with_reducible refine leafI ?_) | (with_reducible refine leafB ?_) | ((with_reducible refine (?_ : (_ : Int) = _)); (with_reducible rfl)) | ((with_reducible refine (?_ : (_ : List (List Value)) = _)); (with_reducible rfl)) | ((with_reducible refine (?_ : (_ : Int) ≠ 0)); (first | assumption | omega | (simp; done) | (simp only [ints_len] at *; omega) | (simp; omega))) | ((with_reducible refine (?_ : (_ : Int) ≤ _)); (first | assumption | omega | (simp; done) | (simp only [ints_len] at *; omega) | (simp; omega))) | ((with_reducible refine (?_ : (_ : Int) < _)); (first | assumption | omega | (simp; done) | (simp only [ints_len] at *; omega) | (simp; omega))) | ((with_reducible refine (?_ : (_ : Nat) ≤ _)); (first | omega | (simp only [List.length_cons, List.length_nil]; omega) | (simp [ints]; done) | (simp; omega))) | ((with_reducible refine (?_ : (_ : Nat) < _)); (first | omega | (simp only [List.length_cons, List.length_nil]; omega) | (simp [ints]; done) | (simp; omega))) | ((with_reducible refine (?_ : (_ : Nat) = _)); (first | (with_reducible rfl) | (simp; done) | (simp only [fr_len]) | (simp only [ints_len]) | omega | (simp [*]; done))) | (refine And.intro ?_ ?_) | (intro h; first | (exact Bool.noConfusion h) | ((simp only [decide_eq_true_eq, decide_eq_false_iff_not, beq_iff_eq, bne_iff_ne, ne_eq, beq_eq_false_iff_ne, bne_eq_false_iff_eq, Bool.not_eq_true', Bool.not_eq_false', Bool.not_eq_true, Bool.not_eq_false, Int.not_le, Int.not_lt, Bool.and_eq_true, Bool.or_eq_true, Bool.or_eq_false_iff, Bool.and_eq_false_iff] at h); (try (exfalso; omega))) | skip) | ((refine (?_ : ACall _ _ _ _ _ _ _)); first | ((apply abox (a3)); (focus (exact rfl)); (focus (exact rfl)); (focus (exact rfl)); (focus (repeat' (first | exact rfl | (refine And.intro ?_ ?_) | (simp; done) | omega))); (focus (repeat' (first | exact trivial | exact rfl | (refine And.intro ?_ ?_))))) | ((apply abox (b3)); (focus (exact rfl)); (focus (exact rfl)); (focus (exact rfl)); (focus (repeat' (first | exact rfl | (refine And.intro ?_ ?_) | (simp; done) | omega))); (focus (repeat' (first | exact trivial | exact rfl | (refine And.intro ?_ ?_)))))) | ((with_reducible refine (?_ : chk _ _ = true)); kernel_rfl) | ((with_reducible refine (?_ : (_ : IntKind) = _)); (with_reducible rfl)) | ((with_reducible refine (?_ : eqC (C.pvw _ _ _) (C.pvw _ _ _))); exact rfl) | ((with_reducible refine (?_ : eqC (C.pv (Value.int IntKind.u64 _)) _)); exact rfl) | exact trivial)

theorem special_ex (v : Value) (l : List Int) (hl : BysOk l) (s : Int × Int) (hs : Cv 1400000000000 s) : ∃ (m : T4) (s' : Int × Int), (I64 m.1 ∧ I64 m.2.1 ∧ I64 m.2.2.1 ∧ I64 m.2.2.2) ∧ (s.1 ≤ s'.1 ∧ s'.1 ≤ s.1 + 100) ∧ AFun Try.prog 17 [Cx v l s] [P0] (Ma m.1 m.2.1 m.2.2.1 m.2.2.2) [Cx v l s'] [] := by
  obtain ⟨k, s1, a1, a2, a3⟩ := pick_ex v l hl 5 (by omega) s ⟨hs.1, by have := hs.2; omega⟩
  have c1 := cv_next hs a2 (K := 1500000000000) (by omega)
  by_cases h0 : k = 0
  · subst h0
    obtain ⟨m, s2, b1, b2, b3⟩ := matrix_ex v l hl s1 c1
    refine ⟨m, s2, b1, ⟨by omega, by omega⟩, ?_⟩
    refine afun_intro fn17 rfl rfl (by repeat' (first | exact trivial | (simp; done) | refine ⟨?_, ?_⟩)) ?_
    unfold ac17
    repeat' (first | ((with_reducible refine (?_ : (_ : Bool) = _)); (with_reducible rfl)) | ((with_reducible refine (?_ : (_ : Nat × Nat) = _)); (with_reducible rfl)) | (with_reducible refine leafRI ?_) | (with_reducible refine leafRB ?_) | (with_reducible refine leafI ?_) | (with_reducible refine leafB ?_) | ((with_reducible refine (?_ : (_ : Int) = _)); (with_reducible rfl)) | ((with_reducible refine (?_ : (_ : List (List Value)) = _)); (with_reducible rfl)) | ((with_reducible refine (?_ : (_ : Int) ≠ 0)); (first | assumption | omega | (simp; done) | (simp only [ints_len] at *; omega) | (simp; omega))) | ((with_reducible refine (?_ : (_ : Int) ≤ _)); (first | assumption | omega | (simp; done) | (simp only [ints_len] at *; omega) | (simp; omega))) | ((with_reducible refine (?_ : (_ : Int) < _)); (first | assumption | omega | (simp; done) | (simp only [ints_len] at *; omega) | (simp; omega))) | ((with_reducible refine (?_ : (_ : Nat) ≤ _)); (first | omega | (simp only [List.length_cons, List.length_nil]; omega) | (simp [ints]; done) | (simp; omega))) | ((with_reducible refine (?_ : (_ : Nat) < _)); (first | omega | (simp only [List.length_cons, List.length_nil]; omega) | (simp [ints]; done) | (simp; omega))) | ((with_reducible refine (?_ : (_ : Nat) = _)); (first | (with_reducible rfl) | (simp; done) | (simp only [fr_len]) | (simp only [ints_len]) | omega | (simp [*]; done))) | (refine And.intro ?_ ?_) | (intro h; first | (exact Bool.noConfusion h) | ((simp only [decide_eq_true_eq, decide_eq_false_iff_not, beq_iff_eq, bne_iff_ne, ne_eq, beq_eq_false_iff_ne, bne_eq_false_iff_eq, Bool.not_eq_true', Bool.not_eq_false', Bool.not_eq_true, Bool.not_eq_false, Int.not_le, Int.not_lt, Bool.and_eq_true, Bool.or_eq_true, Bool.or_eq_false_iff, Bool.and_eq_false_iff] at h); (try (exfalso; omega))) | skip) | ((refine (?_ : ACall _ _ _ _ _ _ _)); first | ((apply abox (a3)); (focus (exact rfl)); (focus (exact rfl)); (focus (exact rfl)); (focus (repeat' (first | exact rfl | (refine And.intro ?_ ?_) | (simp; done) | omega))); (focus (repeat' (first | exact trivial | exact rfl | (refine And.intro ?_ ?_))))) | ((apply abox (b3)); (focus (exact rfl)); (focus (exact rfl)); (focus (exact rfl)); (focus (repeat' (first | exact rfl | (refine And.intro ?_ ?_) | (simp; done) | omega))); (focus (repeat' (first | exact trivial | exact rfl | (refine And.intro ?_ ?_)))))) | ((with_reducible refine (?_ : chk _ _ = true)); kernel_rfl) | ((with_reducible refine (?_ : (_ : IntKind) = _)); (with_reducible rfl)) | ((with_reducible refine (?_ : eqC (C.pvw _ _ _) (C.pvw _ _ _))); exact rfl) | ((with_reducible refine (?_ : eqC (C.pv (Value.int IntKind.u64 _)) _)); exact rfl) | exact trivial)
  by_cases h1 : k = 1
  · subst h1
    obtain ⟨m, s2, b1, b2, b3⟩ := proper_ex v l hl s1 ⟨c1.1, by have := c1.2; omega⟩
    refine ⟨m, s2, b1, ⟨by omega, by omega⟩, ?_⟩
    refine afun_intro fn17 rfl rfl (by repeat' (first | exact trivial | (simp; done) | refine ⟨?_, ?_⟩)) ?_
    unfold ac17
    repeat' (first | ((with_reducible refine (?_ : (_ : Bool) = _)); (with_reducible rfl)) | ((with_reducible refine (?_ : (_ : Nat × Nat) = _)); (with_reducible rfl)) | (with_reducible refine leafRI ?_) | (with_reducible refine leafRB ?_) | (with_reducible refine leafI ?_) | (with_reducible refine leafB ?_) | ((with_reducible refine (?_ : (_ : Int) = _)); (with_reducible rfl)) | ((with_reducible refine (?_ : (_ : List (List Value)) = _)); (with_reducible rfl)) | ((with_reducible refine (?_ : (_ : Int) ≠ 0)); (first | assumption | omega | (simp; done) | (simp only [ints_len] at *; omega) | (simp; omega))) | ((with_reducible refine (?_ : (_ : Int) ≤ _)); (first | assumption | omega | (simp; done) | (simp only [ints_len] at *; omega) | (simp; omega))) | ((with_reducible refine (?_ : (_ : Int) < _)); (first | assumption | omega | (simp; done) | (simp only [ints_len] at *; omega) | (simp; omega))) | ((with_reducible refine (?_ : (_ : Nat) ≤ _)); (first | omega | (simp only [List.length_cons, List.length_nil]; omega) | (simp [ints]; done) | (simp; omega))) | ((with_reducible refine (?_ : (_ : Nat) < _)); (first | omega | (simp only [List.length_cons, List.length_nil]; omega) | (simp [ints]; done) | (simp; omega))) | ((with_reducible refine (?_ : (_ : Nat) = _)); (first | (with_reducible rfl) | (simp; done) | (simp only [fr_len]) | (simp only [ints_len]) | omega | (simp [*]; done))) | (refine And.intro ?_ ?_) | (intro h; first | (exact Bool.noConfusion h) | ((simp only [decide_eq_true_eq, decide_eq_false_iff_not, beq_iff_eq, bne_iff_ne, ne_eq, beq_eq_false_iff_ne, bne_eq_false_iff_eq, Bool.not_eq_true', Bool.not_eq_false', Bool.not_eq_true, Bool.not_eq_false, Int.not_le, Int.not_lt, Bool.and_eq_true, Bool.or_eq_true, Bool.or_eq_false_iff, Bool.and_eq_false_iff] at h); (try (exfalso; omega))) | skip) | ((refine (?_ : ACall _ _ _ _ _ _ _)); first | ((apply abox (a3)); (focus (exact rfl)); (focus (exact rfl)); (focus (exact rfl)); (focus (repeat' (first | exact rfl | (refine And.intro ?_ ?_) | (simp; done) | omega))); (focus (repeat' (first | exact trivial | exact rfl | (refine And.intro ?_ ?_))))) | ((apply abox (b3)); (focus (exact rfl)); (focus (exact rfl)); (focus (exact rfl)); (focus (repeat' (first | exact rfl | (refine And.intro ?_ ?_) | (simp; done) | omega))); (focus (repeat' (first | exact trivial | exact rfl | (refine And.intro ?_ ?_)))))) | ((with_reducible refine (?_ : chk _ _ = true)); kernel_rfl) | ((with_reducible refine (?_ : (_ : IntKind) = _)); (with_reducible rfl)) | ((with_reducible refine (?_ : eqC (C.pvw _ _ _) (C.pvw _ _ _))); exact rfl) | ((with_reducible refine (?_ : eqC (C.pv (Value.int IntKind.u64 _)) _)); exact rfl) | exact trivial)
  obtain ⟨t, s2, b1, b2, b3⟩ := pick_ex v l hl 15 (by omega) s1 ⟨c1.1, by have := c1.2; omega⟩
  have c2 := cv_next c1 b2 (K := 1500000000100) (by omega)
  obtain ⟨⟨a, b, c, d⟩, s3, d1, d2, d3⟩ := proper_ex v l hl s2 ⟨c2.1, by have := c2.2; omega⟩
  have ht : t = 0 ∨ t = 1 ∨ t = 2 ∨ t = 3 ∨ t = 4 ∨ t = 5 ∨ t = 6 ∨ t = 7 ∨ t = 8 ∨ t = 9 ∨ t = 10 ∨ t = 11 ∨ t = 12 ∨ t = 13 ∨ t = 14 := by omega
  rcases ht with rfl | rfl | rfl | rfl | rfl | rfl | rfl | rfl | rfl | rfl | rfl | rfl | rfl | rfl | rfl
  · refine ⟨mulT (mulT (invT (a, b, c, d)) (1, 0, 0, 1)) (a, b, c, d), s3, I64_mul _ _, ⟨by omega, by omega⟩, ?_⟩
    refine afun_intro fn17 rfl rfl (by repeat' (first | exact trivial | (simp; done) | refine ⟨?_, ?_⟩)) ?_
    unfold ac17
    repeat' (first | ((with_reducible refine (?_ : (_ : Bool) = _)); (with_reducible rfl)) | ((with_reducible refine (?_ : (_ : Nat × Nat) = _)); (with_reducible rfl)) | (with_reducible refine leafRI ?_) | (with_reducible refine leafRB ?_) | (with_reducible refine leafI ?_) | (with_reducible refine leafB ?_) | ((with_reducible refine (?_ : (_ : Int) = _)); (with_reducible rfl)) | ((with_reducible refine (?_ : (_ : List (List Value)) = _)); (with_reducible rfl)) | ((with_reducible refine (?_ : (_ : Int) ≠ 0)); (first | assumption | omega | (simp; done) | (simp only [ints_len] at *; omega) | (simp; omega))) | ((with_reducible refine (?_ : (_ : Int) ≤ _)); (first | assumption | omega | (simp; done) | (simp only [ints_len] at *; omega) | (simp; omega))) | ((with_reducible refine (?_ : (_ : Int) < _)); (first | assumption | omega | (simp; done) | (simp only [ints_len] at *; omega) | (simp; omega))) | ((with_reducible refine (?_ : (_ : Nat) ≤ _)); (first | omega | (simp only [List.length_cons, List.length_nil]; omega) | (simp [ints]; done) | (simp; omega))) | ((with_reducible refine (?_ : (_ : Nat) < _)); (first | omega | (simp only [List.length_cons, List.length_nil]; omega) | (simp [ints]; done) | (simp; omega))) | ((with_reducible refine (?_ : (_ : Nat) = _)); (first | (with_reducible rfl) | (simp; done) | (simp only [fr_len]) | (simp only [ints_len]) | omega | (simp [*]; done))) | (refine And.intro ?_ ?_) | (intro h; first | (exact Bool.noConfusion h) | ((simp only [decide_eq_true_eq, decide_eq_false_iff_not, beq_iff_eq, bne_iff_ne, ne_eq, beq_eq_false_iff_ne, bne_eq_false_iff_eq, Bool.not_eq_true', Bool.not_eq_false', Bool.not_eq_true, Bool.not_eq_false, Int.not_le, Int.not_lt, Bool.and_eq_true, Bool.or_eq_true, Bool.or_eq_false_iff, Bool.and_eq_false_iff] at h); (try (exfalso; omega))) | skip) | ((refine (?_ : ACall _ _ _ _ _ _ _)); first | ((apply abox (a3)); (focus (exact rfl)); (focus (exact rfl)); (focus (exact rfl)); (focus (repeat' (first | exact rfl | (refine And.intro ?_ ?_) | (simp; done) | omega))); (focus (repeat' (first | exact trivial | exact rfl | (refine And.intro ?_ ?_))))) | ((apply abox (b3)); (focus (exact rfl)); (focus (exact rfl)); (focus (exact rfl)); (focus (repeat' (first | exact rfl | (refine And.intro ?_ ?_) | (simp; done) | omega))); (focus (repeat' (first | exact trivial | exact rfl | (refine And.intro ?_ ?_))))) | ((apply abox (d3)); (focus (exact rfl)); (focus (exact rfl)); (focus (exact rfl)); (focus (repeat' (first | exact rfl | (refine And.intro ?_ ?_) | (simp; done) | omega))); (focus (repeat' (first | exact trivial | exact rfl | (refine And.intro ?_ ?_))))) | ((apply acall (spec_foInverse _ _ _ _)); (focus (repeat' (first | exact rfl | (refine And.intro ?_ ?_) | (simp only [ints_len]; done) | (simp; done) | omega)))) | ((apply acall (spec_foMul _ _ _ _ _ _ _ _)); (focus (repeat' (first | exact rfl | (refine And.intro ?_ ?_) | (simp only [ints_len]; done) | (simp; done) | omega))))) | ((with_reducible refine (?_ : chk _ _ = true)); kernel_rfl) | ((with_reducible refine (?_ : (_ : IntKind) = _)); (with_reducible rfl)) | ((with_reducible refine (?_ : eqC (C.pvw _ _ _) (C.pvw _ _ _))); exact rfl) | ((with_reducible refine (?_ : eqC (C.pv (Value.int IntKind.u64 _)) _)); exact rfl) | exact trivial | (refine Exists.intro _ (And.intro rfl ?_)))
  · refine ⟨mulT (mulT (invT (a, b, c, d)) (-1, 0, 0, -1)) (a, b, c, d), s3, I64_mul _ _, ⟨by omega, by omega⟩, ?_⟩
    refine afun_intro fn17 rfl rfl (by repeat' (first | exact trivial | (simp; done) | refine ⟨?_, ?_⟩)) ?_
    unfold ac17
    repeat' (first | ((with_reducible refine (?_ : (_ : Bool) = _)); (with_reducible rfl)) | ((with_reducible refine (?_ : (_ : Nat × Nat) = _)); (with_reducible rfl)) | (with_reducible refine leafRI ?_) | (with_reducible refine leafRB ?_) | (with_reducible refine leafI ?_) | (with_reducible refine leafB ?_) | ((with_reducible refine (?_ : (_ : Int) = _)); (with_reducible rfl)) | ((with_reducible refine (?_ : (_ : List (List Value)) = _)); (with_reducible rfl)) | ((with_reducible refine (?_ : (_ : Int) ≠ 0)); (first | assumption | omega | (simp; done) | (simp only [ints_len] at *; omega) | (simp; omega))) | ((with_reducible refine (?_ : (_ : Int) ≤ _)); (first | assumption | omega | (simp; done) | (simp only [ints_len] at *; omega) | (simp; omega))) | ((with_reducible refine (?_ : (_ : Int) < _)); (first | assumption | omega | (simp; done) | (simp only [ints_len] at *; omega) | (simp; omega))) | ((with_reducible refine (?_ : (_ : Nat) ≤ _)); (first | omega | (simp only [List.length_cons, List.length_nil]; omega) | (simp [ints]; done) | (simp; omega))) | ((with_reducible refine (?_ : (_ : Nat) < _)); (first | omega | (simp only [List.length_cons, List.length_nil]; omega) | (simp [ints]; done) | (simp; omega))) | ((with_reducible refine (?_ : (_ : Nat) = _)); (first | (with_reducible rfl) | (simp; done) | (simp only [fr_len]) | (simp only [ints_len]) | omega | (simp [*]; done))) | (refine And.intro ?_ ?_) | (intro h; first | (exact Bool.noConfusion h) | ((simp only [decide_eq_true_eq, decide_eq_false_iff_not, beq_iff_eq, bne_iff_ne, ne_eq, beq_eq_false_iff_ne, bne_eq_false_iff_eq, Bool.not_eq_true', Bool.not_eq_false', Bool.not_eq_true, Bool.not_eq_false, Int.not_le, Int.not_lt, Bool.and_eq_true, Bool.or_eq_true, Bool.or_eq_false_iff, Bool.and_eq_false_iff] at h); (try (exfalso; omega))) | skip) | ((refine (?_ : ACall _ _ _ _ _ _ _)); first | ((apply abox (a3)); (focus (exact rfl)); (focus (exact rfl)); (focus (exact rfl)); (focus (repeat' (first | exact rfl | (refine And.intro ?_ ?_) | (simp; done) | omega))); (focus (repeat' (first | exact trivial | exact rfl | (refine And.intro ?_ ?_))))) | ((apply abox (b3)); (focus (exact rfl)); (focus (exact rfl)); (focus (exact rfl)); (focus (repeat' (first | exact rfl | (refine And.intro ?_ ?_) | (simp; done) | omega))); (focus (repeat' (first | exact trivial | exact rfl | (refine And.intro ?_ ?_))))) | ((apply abox (d3)); (focus (exact rfl)); (focus (exact rfl)); (focus (exact rfl)); (focus (repeat' (first | exact rfl | (refine And.intro ?_ ?_) | (simp; done) | omega))); (focus (repeat' (first | exact trivial | exact rfl | (refine And.intro ?_ ?_))))) | ((apply acall (spec_foInverse _ _ _ _)); (focus (repeat' (first | exact rfl | (refine And.intro ?_ ?_) | (simp only [ints_len]; done) | (simp; done) | omega)))) | ((apply acall (spec_foMul _ _ _ _ _ _ _ _)); (focus (repeat' (first | exact rfl | (refine And.intro ?_ ?_) | (simp only [ints_len]; done) | (simp; done) | omega))))) | ((with_reducible refine (?_ : chk _ _ = true)); kernel_rfl) | ((with_reducible refine (?_ : (_ : IntKind) = _)); (with_reducible rfl)) | ((with_reducible refine (?_ : eqC (C.pvw _ _ _) (C.pvw _ _ _))); exact rfl) | ((with_reducible refine (?_ : eqC (C.pv (Value.int IntKind.u64 _)) _)); exact rfl) | exact trivial | (refine Exists.intro _ (And.intro rfl ?_)))
  · refine ⟨mulT (mulT (invT (a, b, c, d)) (0, -1, 1, 0)) (a, b, c, d), s3, I64_mul _ _, ⟨by omega, by omega⟩, ?_⟩
    refine afun_intro fn17 rfl rfl (by repeat' (first | exact trivial | (simp; done) | refine ⟨?_, ?_⟩)) ?_
    unfold ac17
    repeat' (first | ((with_reducible refine (?_ : (_ : Bool) = _)); (with_reducible rfl)) | ((with_reducible refine (?_ : (_ : Nat × Nat) = _)); (with_reducible rfl)) | (with_reducible refine leafRI ?_) | (with_reducible refine leafRB ?_) | (with_reducible refine leafI ?_) | (with_reducible refine leafB ?_) | ((with_reducible refine (?_ : (_ : Int) = _)); (with_reducible rfl)) | ((with_reducible refine (?_ : (_ : List (List Value)) = _)); (with_reducible rfl)) | ((with_reducible refine (?_ : (_ : Int) ≠ 0)); (first | assumption | omega | (simp; done) | (simp only [ints_len] at *; omega) | (simp; omega))) | ((with_reducible refine (?_ : (_ : Int) ≤ _)); (first | assumption | omega | (simp; done) | (simp only [ints_len] at *; omega) | (simp; omega))) | ((with_reducible refine (?_ : (_ : Int) < _)); (first | assumption | omega | (simp; done) | (simp only [ints_len] at *; omega) | (simp; omega))) | ((with_reducible refine (?_ : (_ : Nat) ≤ _)); (first | omega | (simp only [List.length_cons, List.length_nil]; omega) | (simp [ints]; done) | (simp; omega))) | ((with_reducible refine (?_ : (_ : Nat) < _)); (first | omega | (simp only [List.length_cons, List.length_nil]; omega) | (simp [ints]; done) | (simp; omega))) | ((with_reducible refine (?_ : (_ : Nat) = _)); (first | (with_reducible rfl) | (simp; done) | (simp only [fr_len]) | (simp only [ints_len]) | omega | (simp [*]; done))) | (refine And.intro ?_ ?_) | (intro h; first | (exact Bool.noConfusion h) | ((simp only [decide_eq_true_eq, decide_eq_false_iff_not, beq_iff_eq, bne_iff_ne, ne_eq, beq_eq_false_iff_ne, bne_eq_false_iff_eq, Bool.not_eq_true', Bool.not_eq_false', Bool.not_eq_true, Bool.not_eq_false, Int.not_le, Int.not_lt, Bool.and_eq_true, Bool.or_eq_true, Bool.or_eq_false_iff, Bool.and_eq_false_iff] at h); (try (exfalso; omega))) | skip) | ((refine (?_ : ACall _ _ _ _ _ _ _)); first | ((apply abox (a3)); (focus (exact rfl)); (focus (exact rfl)); (focus (exact rfl)); (focus (repeat' (first | exact rfl | (refine And.intro ?_ ?_) | (simp; done) | omega))); (focus (repeat' (first | exact trivial | exact rfl | (refine And.intro ?_ ?_))))) | ((apply abox (b3)); (focus (exact rfl)); (focus (exact rfl)); (focus (exact rfl)); (focus (repeat' (first | exact rfl | (refine And.intro ?_ ?_) | (simp; done) | omega))); (focus (repeat' (first | exact trivial | exact rfl | (refine And.intro ?_ ?_))))) | ((apply abox (d3)); (focus (exact rfl)); (focus (exact rfl)); (focus (exact rfl)); (focus (repeat' (first | exact rfl | (refine And.intro ?_ ?_) | (simp; done) | omega))); (focus (repeat' (first | exact trivial | exact rfl | (refine And.intro ?_ ?_))))) | ((apply acall (spec_foInverse _ _ _ _)); (focus (repeat' (first | exact rfl | (refine And.intro ?_ ?_) | (simp only [ints_len]; done) | (simp; done) | omega)))) | ((apply acall (spec_foMul _ _ _ _ _ _ _ _)); (focus (repeat' (first | exact rfl | (refine And.intro ?_ ?_) | (simp only [ints_len]; done) | (simp; done) | omega))))) | ((with_reducible refine (?_ : chk _ _ = true)); kernel_rfl) | ((with_reducible refine (?_ : (_ : IntKind) = _)); (with_reducible rfl)) | ((with_reducible refine (?_ : eqC (C.pvw _ _ _) (C.pvw _ _ _))); exact rfl) | ((with_reducible refine (?_ : eqC (C.pv (Value.int IntKind.u64 _)) _)); exact rfl) | exact trivial | (refine Exists.intro _ (And.intro rfl ?_)))
  · refine ⟨mulT (mulT (invT (a, b, c, d)) (0, 1, -1, 0)) (a, b, c, d), s3, I64_mul _ _, ⟨by omega, by omega⟩, ?_⟩
    refine afun_intro fn17 rfl rfl (by repeat' (first | exact trivial | (simp; done) | refine ⟨?_, ?_⟩)) ?_
    unfold ac17
    repeat' (first | ((with_reducible refine (?_ : (_ : Bool) = _)); (with_reducible rfl)) | ((with_reducible refine (?_ : (_ : Nat × Nat) = _)); (with_reducible rfl)) | (with_reducible refine leafRI ?_) | (with_reducible refine leafRB ?_) | (with_reducible refine leafI ?_) | (with_reducible refine leafB ?_) | ((with_reducible refine (?_ : (_ : Int) = _)); (with_reducible rfl)) | ((with_reducible refine (?_ : (_ : List (List Value)) = _)); (with_reducible rfl)) | ((with_reducible refine (?_ : (_ : Int) ≠ 0)); (first | assumption | omega | (simp; done) | (simp only [ints_len] at *; omega) | (simp; omega))) | ((with_reducible refine (?_ : (_ : Int) ≤ _)); (first | assumption | omega | (simp; done) | (simp only [ints_len] at *; omega) | (simp; omega))) | ((with_reducible refine (?_ : (_ : Int) < _)); (first | assumption | omega | (simp; done) | (simp only [ints_len] at *; omega) | (simp; omega))) | ((with_reducible refine (?_ : (_ : Nat) ≤ _)); (first | omega | (simp only [List.length_cons, List.length_nil]; omega) | (simp [ints]; done) | (simp; omega))) | ((with_reducible refine (?_ : (_ : Nat) < _)); (first | omega | (simp only [List.length_cons, List.length_nil]; omega) | (simp [ints]; done) | (simp; omega))) | ((with_reducible refine (?_ : (_ : Nat) = _)); (first | (with_reducible rfl) | (simp; done) | (simp only [fr_len]) | (simp only [ints_len]) | omega | (simp [*]; done))) | (refine And.intro ?_ ?_) | (intro h; first | (exact Bool.noConfusion h) | ((simp only [decide_eq_true_eq, decide_eq_false_iff_not, beq_iff_eq, bne_iff_ne, ne_eq, beq_eq_false_iff_ne, bne_eq_false_iff_eq, Bool.not_eq_true', Bool.not_eq_false', Bool.not_eq_true, Bool.not_eq_false, Int.not_le, Int.not_lt, Bool.and_eq_true, Bool.or_eq_true, Bool.or_eq_false_iff, Bool.and_eq_false_iff] at h); (try (exfalso; omega))) | skip) | ((refine (?_ : ACall _ _ _ _ _ _ _)); first | ((apply abox (a3)); (focus (exact rfl)); (focus (exact rfl)); (focus (exact rfl)); (focus (repeat' (first | exact rfl | (refine And.intro ?_ ?_) | (simp; done) | omega))); (focus (repeat' (first | exact trivial | exact rfl | (refine And.intro ?_ ?_))))) | ((apply abox (b3)); (focus (exact rfl)); (focus (exact rfl)); (focus (exact rfl)); (focus (repeat' (first | exact rfl | (refine And.intro ?_ ?_) | (simp; done) | omega))); (focus (repeat' (first | exact trivial | exact rfl | (refine And.intro ?_ ?_))))) | ((apply abox (d3)); (focus (exact rfl)); (focus (exact rfl)); (focus (exact rfl)); (focus (repeat' (first | exact rfl | (refine And.intro ?_ ?_) | (simp; done) | omega))); (focus (repeat' (first | exact trivial | exact rfl | (refine And.intro ?_ ?_))))) | ((apply acall (spec_foInverse _ _ _ _)); (focus (repeat' (first | exact rfl | (refine And.intro ?_ ?_) | (simp only [ints_len]; done) | (simp; done) | omega)))) | ((apply acall (spec_foMul _ _ _ _ _ _ _ _)); (focus (repeat' (first | exact rfl | (refine And.intro ?_ ?_) | (simp only [ints_len]; done) | (simp; done) | omega))))) | ((with_reducible refine (?_ : chk _ _ = true)); kernel_rfl) | ((with_reducible refine (?_ : (_ : IntKind) = _)); (with_reducible rfl)) | ((with_reducible refine (?_ : eqC (C.pvw _ _ _) (C.pvw _ _ _))); exact rfl) | ((with_reducible refine (?_ : eqC (C.pv (Value.int IntKind.u64 _)) _)); exact rfl) | exact trivial | (refine Exists.intro _ (And.intro rfl ?_)))
  · refine ⟨mulT (mulT (invT (a, b, c, d)) (0, -1, 1, 1)) (a, b, c, d), s3, I64_mul _ _, ⟨by omega, by omega⟩, ?_⟩
    refine afun_intro fn17 rfl rfl (by repeat' (first | exact trivial | (simp; done) | refine ⟨?_, ?_⟩)) ?_
    unfold ac17
    repeat' (first | ((with_reducible refine (?_ : (_ : Bool) = _)); (with_reducible rfl)) | ((with_reducible refine (?_ : (_ : Nat × Nat) = _)); (with_reducible rfl)) | (with_reducible refine leafRI ?_) | (with_reducible refine leafRB ?_) | (with_reducible refine leafI ?_) | (with_reducible refine leafB ?_) | ((with_reducible refine (?_ : (_ : Int) = _)); (with_reducible rfl)) | ((with_reducible refine (?_ : (_ : List (List Value)) = _)); (with_reducible rfl)) | ((with_reducible refine (?_ : (_ : Int) ≠ 0)); (first | assumption | omega | (simp; done) | (simp only [ints_len] at *; omega) | (simp; omega))) | ((with_reducible refine (?_ : (_ : Int) ≤ _)); (first | assumption | omega | (simp; done) | (simp only [ints_len] at *; omega) | (simp; omega))) | ((with_reducible refine (?_ : (_ : Int) < _)); (first | assumption | omega | (simp; done) | (simp only [ints_len] at *; omega) | (simp; omega))) | ((with_reducible refine (?_ : (_ : Nat) ≤ _)); (first | omega | (simp only [List.length_cons, List.length_nil]; omega) | (simp [ints]; done) | (simp; omega))) | ((with_reducible refine (?_ : (_ : Nat) < _)); (first | omega | (simp only [List.length_cons, List.length_nil]; omega) | (simp [ints]; done) | (simp; omega))) | ((with_reducible refine (?_ : (_ : Nat) = _)); (first | (with_reducible rfl) | (simp; done) | (simp only [fr_len]) | (simp only [ints_len]) | omega | (simp [*]; done))) | (refine And.intro ?_ ?_) | (intro h; first | (exact Bool.noConfusion h) | ((simp only [decide_eq_true_eq, decide_eq_false_iff_not, beq_iff_eq, bne_iff_ne, ne_eq, beq_eq_false_iff_ne, bne_eq_false_iff_eq, Bool.not_eq_true', Bool.not_eq_false', Bool.not_eq_true, Bool.not_eq_false, Int.not_le, Int.not_lt, Bool.and_eq_true, Bool.or_eq_true, Bool.or_eq_false_iff, Bool.and_eq_false_iff] at h); (try (exfalso; omega))) | skip) | ((refine (?_ : ACall _ _ _ _ _ _ _)); first | ((apply abox (a3)); (focus (exact rfl)); (focus (exact rfl)); (focus (exact rfl)); (focus (repeat' (first | exact rfl | (refine And.intro ?_ ?_) | (simp; done) | omega))); (focus (repeat' (first | exact trivial | exact rfl | (refine And.intro ?_ ?_))))) | ((apply abox (b3)); (focus (exact rfl)); (focus (exact rfl)); (focus (exact rfl)); (focus (repeat' (first | exact rfl | (refine And.intro ?_ ?_) | (simp; done) | omega))); (focus (repeat' (first | exact trivial | exact rfl | (refine And.intro ?_ ?_))))) | ((apply abox (d3)); (focus (exact rfl)); (focus (exact rfl)); (focus (exact rfl)); (focus (repeat' (first | exact rfl | (refine And.intro ?_ ?_) | (simp; done) | omega))); (focus (repeat' (first | exact trivial | exact rfl | (refine And.intro ?_ ?_))))) | ((apply acall (spec_foInverse _ _ _ _)); (focus (repeat' (first | exact rfl | (refine And.intro ?_ ?_) | (simp only [ints_len]; done) | (simp; done) | omega)))) | ((apply acall (spec_foMul _ _ _ _ _ _ _ _)); (focus (repeat' (first | exact rfl | (refine And.intro ?_ ?_) | (simp only [ints_len]; done) | (simp; done) | omega))))) | ((with_reducible refine (?_ : chk _ _ = true)); kernel_rfl) | ((with_reducible refine (?_ : (_ : IntKind) = _)); (with_reducible rfl)) | ((with_reducible refine (?_ : eqC (C.pvw _ _ _) (C.pvw _ _ _))); exact rfl) | ((with_reducible refine (?_ : eqC (C.pv (Value.int IntKind.u64 _)) _)); exact rfl) | exact trivial | (refine Exists.intro _ (And.intro rfl ?_)))
  · refine ⟨mulT (mulT (invT (a, b, c, d)) (0, -1, 1, -1)) (a, b, c, d), s3, I64_mul _ _, ⟨by omega, by omega⟩, ?_⟩
    refine afun_intro fn17 rfl rfl (by repeat' (first | exact trivial | (simp; done) | refine ⟨?_, ?_⟩)) ?_
    unfold ac17
    repeat' (first | ((with_reducible refine (?_ : (_ : Bool) = _)); (with_reducible rfl)) | ((with_reducible refine (?_ : (_ : Nat × Nat) = _)); (with_reducible rfl)) | (with_reducible refine leafRI ?_) | (with_reducible refine leafRB ?_) | (with_reducible refine leafI ?_) | (with_reducible refine leafB ?_) | ((with_reducible refine (?_ : (_ : Int) = _)); (with_reducible rfl)) | ((with_reducible refine (?_ : (_ : List (List Value)) = _)); (with_reducible rfl)) | ((with_reducible refine (?_ : (_ : Int) ≠ 0)); (first | assumption | omega | (simp; done) | (simp only [ints_len] at *; omega) | (simp; omega))) | ((with_reducible refine (?_ : (_ : Int) ≤ _)); (first | assumption | omega | (simp; done) | (simp only [ints_len] at *; omega) | (simp; omega))) | ((with_reducible refine (?_ : (_ : Int) < _)); (first | assumption | omega | (simp; done) | (simp only [ints_len] at *; omega) | (simp; omega))) | ((with_reducible refine (?_ : (_ : Nat) ≤ _)); (first | omega | (simp only [List.length_cons, List.length_nil]; omega) | (simp [ints]; done) | (simp; omega))) | ((with_reducible refine (?_ : (_ : Nat) < _)); (first | omega | (simp only [List.length_cons, List.length_nil]; omega) | (simp [ints]; done) | (simp; omega))) | ((with_reducible refine (?_ : (_ : Nat) = _)); (first | (with_reducible rfl) | (simp; done) | (simp only [fr_len]) | (simp only [ints_len]) | omega | (simp [*]; done))) | (refine And.intro ?_ ?_) | (intro h; first | (exact Bool.noConfusion h) | ((simp only [decide_eq_true_eq, decide_eq_false_iff_not, beq_iff_eq, bne_iff_ne, ne_eq, beq_eq_false_iff_ne, bne_eq_false_iff_eq, Bool.not_eq_true', Bool.not_eq_false', Bool.not_eq_true, Bool.not_eq_false, Int.not_le, Int.not_lt, Bool.and_eq_true, Bool.or_eq_true, Bool.or_eq_false_iff, Bool.and_eq_false_iff] at h); (try (exfalso; omega))) | skip) | ((refine (?_ : ACall _ _ _ _ _ _ _)); first | ((apply abox (a3)); (focus (exact rfl)); (focus (exact rfl)); (focus (exact rfl)); (focus (repeat' (first | exact rfl | (refine And.intro ?_ ?_) | (simp; done) | omega))); (focus (repeat' (first | exact trivial | exact rfl | (refine And.intro ?_ ?_))))) | ((apply abox (b3)); (focus (exact rfl)); (focus (exact rfl)); (focus (exact rfl)); (focus (repeat' (first | exact rfl | (refine And.intro ?_ ?_) | (simp; done) | omega))); (focus (repeat' (first | exact trivial | exact rfl | (refine And.intro ?_ ?_))))) | ((apply abox (d3)); (focus (exact rfl)); (focus (exact rfl)); (focus (exact rfl)); (focus (repeat' (first | exact rfl | (refine And.intro ?_ ?_) | (simp; done) | omega))); (focus (repeat' (first | exact trivial | exact rfl | (refine And.intro ?_ ?_))))) | ((apply acall (spec_foInverse _ _ _ _)); (focus (repeat' (first | exact rfl | (refine And.intro ?_ ?_) | (simp only [ints_len]; done) | (simp; done) | omega)))) | ((apply acall (spec_foMul _ _ _ _ _ _ _ _)); (focus (repeat' (first | exact rfl | (refine And.intro ?_ ?_) | (simp only [ints_len]; done) | (simp; done) | omega))))) | ((with_reducible refine (?_ : chk _ _ = true)); kernel_rfl) | ((with_reducible refine (?_ : (_ : IntKind) = _)); (with_reducible rfl)) | ((with_reducible refine (?_ : eqC (C.pvw _ _ _) (C.pvw _ _ _))); exact rfl) | ((with_reducible refine (?_ : eqC (C.pv (Value.int IntKind.u64 _)) _)); exact rfl) | exact trivial | (refine Exists.intro _ (And.intro rfl ?_)))
  · refine ⟨mulT (mulT (invT (a, b, c, d)) (1, 3, 0, 1)) (a, b, c, d), s3, I64_mul _ _, ⟨by omega, by omega⟩, ?_⟩
    refine afun_intro fn17 rfl rfl (by repeat' (first | exact trivial | (simp; done) | refine ⟨?_, ?_⟩)) ?_
    unfold ac17
    repeat' (first | ((with_reducible refine (?_ : (_ : Bool) = _)); (with_reducible rfl)) | ((with_reducible refine (?_ : (_ : Nat × Nat) = _)); (with_reducible rfl)) | (with_reducible refine leafRI ?_) | (with_reducible refine leafRB ?_) | (with_reducible refine leafI ?_) | (with_reducible refine leafB ?_) | ((with_reducible refine (?_ : (_ : Int) = _)); (with_reducible rfl)) | ((with_reducible refine (?_ : (_ : List (List Value)) = _)); (with_reducible rfl)) | ((with_reducible refine (?_ : (_ : Int) ≠ 0)); (first | assumption | omega | (simp; done) | (simp only [ints_len] at *; omega) | (simp; omega))) | ((with_reducible refine (?_ : (_ : Int) ≤ _)); (first | assumption | omega | (simp; done) | (simp only [ints_len] at *; omega) | (simp; omega))) | ((with_reducible refine (?_ : (_ : Int) < _)); (first | assumption | omega | (simp; done) | (simp only [ints_len] at *; omega) | (simp; omega))) | ((with_reducible refine (?_ : (_ : Nat) ≤ _)); (first | omega | (simp only [List.length_cons, List.length_nil]; omega) | (simp [ints]; done) | (simp; omega))) | ((with_reducible refine (?_ : (_ : Nat) < _)); (first | omega | (simp only [List.length_cons, List.length_nil]; omega) | (simp [ints]; done) | (simp; omega))) | ((with_reducible refine (?_ : (_ : Nat) = _)); (first | (with_reducible rfl) | (simp; done) | (simp only [fr_len]) | (simp only [ints_len]) | omega | (simp [*]; done))) | (refine And.intro ?_ ?_) | (intro h; first | (exact Bool.noConfusion h) | ((simp only [decide_eq_true_eq, decide_eq_false_iff_not, beq_iff_eq, bne_iff_ne, ne_eq, beq_eq_false_iff_ne, bne_eq_false_iff_eq, Bool.not_eq_true', Bool.not_eq_false', Bool.not_eq_true, Bool.not_eq_false, Int.not_le, Int.not_lt, Bool.and_eq_true, Bool.or_eq_true, Bool.or_eq_false_iff, Bool.and_eq_false_iff] at h); (try (exfalso; omega))) | skip) | ((refine (?_ : ACall _ _ _ _ _ _ _)); first | ((apply abox (a3)); (focus (exact rfl)); (focus (exact rfl)); (focus (exact rfl)); (focus (repeat' (first | exact rfl | (refine And.intro ?_ ?_) | (simp; done) | omega))); (focus (repeat' (first | exact trivial | exact rfl | (refine And.intro ?_ ?_))))) | ((apply abox (b3)); (focus (exact rfl)); (focus (exact rfl)); (focus (exact rfl)); (focus (repeat' (first | exact rfl | (refine And.intro ?_ ?_) | (simp; done) | omega))); (focus (repeat' (first | exact trivial | exact rfl | (refine And.intro ?_ ?_))))) | ((apply abox (d3)); (focus (exact rfl)); (focus (exact rfl)); (focus (exact rfl)); (focus (repeat' (first | exact rfl | (refine And.intro ?_ ?_) | (simp; done) | omega))); (focus (repeat' (first | exact trivial | exact rfl | (refine And.intro ?_ ?_))))) | ((apply acall (spec_foInverse _ _ _ _)); (focus (repeat' (first | exact rfl | (refine And.intro ?_ ?_) | (simp only [ints_len]; done) | (simp; done) | omega)))) | ((apply acall (spec_foMul _ _ _ _ _ _ _ _)); (focus (repeat' (first | exact rfl | (refine And.intro ?_ ?_) | (simp only [ints_len]; done) | (simp; done) | omega))))) | ((with_reducible refine (?_ : chk _ _ = true)); kernel_rfl) | ((with_reducible refine (?_ : (_ : IntKind) = _)); (with_reducible rfl)) | ((with_reducible refine (?_ : eqC (C.pvw _ _ _) (C.pvw _ _ _))); exact rfl) | ((with_reducible refine (?_ : eqC (C.pv (Value.int IntKind.u64 _)) _)); exact rfl) | exact trivial | (refine Exists.intro _ (And.intro rfl ?_)))
  · refine ⟨mulT (mulT (invT (a, b, c, d)) (-1, 2, 0, -1)) (a, b, c, d), s3, I64_mul _ _, ⟨by omega, by omega⟩, ?_⟩
    refine afun_intro fn17 rfl rfl (by repeat' (first | exact trivial | (simp; done) | refine ⟨?_, ?_⟩)) ?_
    unfold ac17
    repeat' (first | ((with_reducible refine (?_ : (_ : Bool) = _)); (with_reducible rfl)) | ((with_reducible refine (?_ : (_ : Nat × Nat) = _)); (with_reducible rfl)) | (with_reducible refine leafRI ?_) | (with_reducible refine leafRB ?_) | (with_reducible refine leafI ?_) | (with_reducible refine leafB ?_) | ((with_reducible refine (?_ : (_ : Int) = _)); (with_reducible rfl)) | ((with_reducible refine (?_ : (_ : List (List Value)) = _)); (with_reducible rfl)) | ((with_reducible refine (?_ : (_ : Int) ≠ 0)); (first | assumption | omega | (simp; done) | (simp only [ints_len] at *; omega) | (simp; omega))) | ((with_reducible refine (?_ : (_ : Int) ≤ _)); (first | assumption | omega | (simp; done) | (simp only [ints_len] at *; omega) | (simp; omega))) | ((with_reducible refine (?_ : (_ : Int) < _)); (first | assumption | omega | (simp; done) | (simp only [ints_len] at *; omega) | (simp; omega))) | ((with_reducible refine (?_ : (_ : Nat) ≤ _)); (first | omega | (simp only [List.length_cons, List.length_nil]; omega) | (simp [ints]; done) | (simp; omega))) | ((with_reducible refine (?_ : (_ : Nat) < _)); (first | omega | (simp only [List.length_cons, List.length_nil]; omega) | (simp [ints]; done) | (simp; omega))) | ((with_reducible refine (?_ : (_ : Nat) = _)); (first | (with_reducible rfl) | (simp; done) | (simp only [fr_len]) | (simp only [ints_len]) | omega | (simp [*]; done))) | (refine And.intro ?_ ?_) | (intro h; first | (exact Bool.noConfusion h) | ((simp only [decide_eq_true_eq, decide_eq_false_iff_not, beq_iff_eq, bne_iff_ne, ne_eq, beq_eq_false_iff_ne, bne_eq_false_iff_eq, Bool.not_eq_true', Bool.not_eq_false', Bool.not_eq_true, Bool.not_eq_false, Int.not_le, Int.not_lt, Bool.and_eq_true, Bool.or_eq_true, Bool.or_eq_false_iff, Bool.and_eq_false_iff] at h); (try (exfalso; omega))) | skip) | ((refine (?_ : ACall _ _ _ _ _ _ _)); first | ((apply abox (a3)); (focus (exact rfl)); (focus (exact rfl)); (focus (exact rfl)); (focus (repeat' (first | exact rfl | (refine And.intro ?_ ?_) | (simp; done) | omega))); (focus (repeat' (first | exact trivial | exact rfl | (refine And.intro ?_ ?_))))) | ((apply abox (b3)); (focus (exact rfl)); (focus (exact rfl)); (focus (exact rfl)); (focus (repeat' (first | exact rfl | (refine And.intro ?_ ?_) | (simp; done) | omega))); (focus (repeat' (first | exact trivial | exact rfl | (refine And.intro ?_ ?_))))) | ((apply abox (d3)); (focus (exact rfl)); (focus (exact rfl)); (focus (exact rfl)); (focus (repeat' (first | exact rfl | (refine And.intro ?_ ?_) | (simp; done) | omega))); (focus (repeat' (first | exact trivial | exact rfl | (refine And.intro ?_ ?_))))) | ((apply acall (spec_foInverse _ _ _ _)); (focus (repeat' (first | exact rfl | (refine And.intro ?_ ?_) | (simp only [ints_len]; done) | (simp; done) | omega)))) | ((apply acall (spec_foMul _ _ _ _ _ _ _ _)); (focus (repeat' (first | exact rfl | (refine And.intro ?_ ?_) | (simp only [ints_len]; done) | (simp; done) | omega))))) | ((with_reducible refine (?_ : chk _ _ = true)); kernel_rfl) | ((with_reducible refine (?_ : (_ : IntKind) = _)); (with_reducible rfl)) | ((with_reducible refine (?_ : eqC (C.pvw _ _ _) (C.pvw _ _ _))); exact rfl) | ((with_reducible refine (?_ : eqC (C.pv (Value.int IntKind.u64 _)) _)); exact rfl) | exact trivial | (refine Exists.intro _ (And.intro rfl ?_)))
  · refine ⟨mulT (mulT (invT (a, b, c, d)) (1, 0, 4, 1)) (a, b, c, d), s3, I64_mul _ _, ⟨by omega, by omega⟩, ?_⟩
    refine afun_intro fn17 rfl rfl (by repeat' (first | exact trivial | (simp; done) | refine ⟨?_, ?_⟩)) ?_
    unfold ac17
    repeat' (first | ((with_reducible refine (?_ : (_ : Bool) = _)); (with_reducible rfl)) | ((with_reducible refine (?_ : (_ : Nat × Nat) = _)); (with_reducible rfl)) | (with_reducible refine leafRI ?_) | (with_reducible refine leafRB ?_) | (with_reducible refine leafI ?_) | (with_reducible refine leafB ?_) | ((with_reducible refine (?_ : (_ : Int) = _)); (with_reducible rfl)) | ((with_reducible refine (?_ : (_ : List (List Value)) = _)); (with_reducible rfl)) | ((with_reducible refine (?_ : (_ : Int) ≠ 0)); (first | assumption | omega | (simp; done) | (simp only [ints_len] at *; omega) | (simp; omega))) | ((with_reducible refine (?_ : (_ : Int) ≤ _)); (first | assumption | omega | (simp; done) | (simp only [ints_len] at *; omega) | (simp; omega))) | ((with_reducible refine (?_ : (_ : Int) < _)); (first | assumption | omega | (simp; done) | (simp only [ints_len] at *; omega) | (simp; omega))) | ((with_reducible refine (?_ : (_ : Nat) ≤ _)); (first | omega | (simp only [List.length_cons, List.length_nil]; omega) | (simp [ints]; done) | (simp; omega))) | ((with_reducible refine (?_ : (_ : Nat) < _)); (first | omega | (simp only [List.length_cons, List.length_nil]; omega) | (simp [ints]; done) | (simp; omega))) | ((with_reducible refine (?_ : (_ : Nat) = _)); (first | (with_reducible rfl) | (simp; done) | (simp only [fr_len]) | (simp only [ints_len]) | omega | (simp [*]; done))) | (refine And.intro ?_ ?_) | (intro h; first | (exact Bool.noConfusion h) | ((simp only [decide_eq_true_eq, decide_eq_false_iff_not, beq_iff_eq, bne_iff_ne, ne_eq, beq_eq_false_iff_ne, bne_eq_false_iff_eq, Bool.not_eq_true', Bool.not_eq_false', Bool.not_eq_true, Bool.not_eq_false, Int.not_le, Int.not_lt, Bool.and_eq_true, Bool.or_eq_true, Bool.or_eq_false_iff, Bool.and_eq_false_iff] at h); (try (exfalso; omega))) | skip) | ((refine (?_ : ACall _ _ _ _ _ _ _)); first | ((apply abox (a3)); (focus (exact rfl)); (focus (exact rfl)); (focus (exact rfl)); (focus (repeat' (first | exact rfl | (refine And.intro ?_ ?_) | (simp; done) | omega))); (focus (repeat' (first | exact trivial | exact rfl | (refine And.intro ?_ ?_))))) | ((apply abox (b3)); (focus (exact rfl)); (focus (exact rfl)); (focus (exact rfl)); (focus (repeat' (first | exact rfl | (refine And.intro ?_ ?_) | (simp; done) | omega))); (focus (repeat' (first | exact trivial | exact rfl | (refine And.intro ?_ ?_))))) | ((apply abox (d3)); (focus (exact rfl)); (focus (exact rfl)); (focus (exact rfl)); (focus (repeat' (first | exact rfl | (refine And.intro ?_ ?_) | (simp; done) | omega))); (focus (repeat' (first | exact trivial | exact rfl | (refine And.intro ?_ ?_))))) | ((apply acall (spec_foInverse _ _ _ _)); (focus (repeat' (first | exact rfl | (refine And.intro ?_ ?_) | (simp only [ints_len]; done) | (simp; done) | omega)))) | ((apply acall (spec_foMul _ _ _ _ _ _ _ _)); (focus (repeat' (first | exact rfl | (refine And.intro ?_ ?_) | (simp only [ints_len]; done) | (simp; done) | omega))))) | ((with_reducible refine (?_ : chk _ _ = true)); kernel_rfl) | ((with_reducible refine (?_ : (_ : IntKind) = _)); (with_reducible rfl)) | ((with_reducible refine (?_ : eqC (C.pvw _ _ _) (C.pvw _ _ _))); exact rfl) | ((with_reducible refine (?_ : eqC (C.pv (Value.int IntKind.u64 _)) _)); exact rfl) | exact trivial | (refine Exists.intro _ (And.intro rfl ?_)))
  · refine ⟨mulT (mulT (invT (a, b, c, d)) (2, 1, 1, 1)) (a, b, c, d), s3, I64_mul _ _, ⟨by omega, by omega⟩, ?_⟩
    refine afun_intro fn17 rfl rfl (by repeat' (first | exact trivial | (simp; done) | refine ⟨?_, ?_⟩)) ?_
    unfold ac17
    repeat' (first | ((with_reducible refine (?_ : (_ : Bool) = _)); (with_reducible rfl)) | ((with_reducible refine (?_ : (_ : Nat × Nat) = _)); (with_reducible rfl)) | (with_reducible refine leafRI ?_) | (with_reducible refine leafRB ?_) | (with_reducible refine leafI ?_) | (with_reducible refine leafB ?_) | ((with_reducible refine (?_ : (_ : Int) = _)); (with_reducible rfl)) | ((with_reducible refine (?_ : (_ : List (List Value)) = _)); (with_reducible rfl)) | ((with_reducible refine (?_ : (_ : Int) ≠ 0)); (first | assumption | omega | (simp; done) | (simp only [ints_len] at *; omega) | (simp; omega))) | ((with_reducible refine (?_ : (_ : Int) ≤ _)); (first | assumption | omega | (simp; done) | (simp only [ints_len] at *; omega) | (simp; omega))) | ((with_reducible refine (?_ : (_ : Int) < _)); (first | assumption | omega | (simp; done) | (simp only [ints_len] at *; omega) | (simp; omega))) | ((with_reducible refine (?_ : (_ : Nat) ≤ _)); (first | omega | (simp only [List.length_cons, List.length_nil]; omega) | (simp [ints]; done) | (simp; omega))) | ((with_reducible refine (?_ : (_ : Nat) < _)); (first | omega | (simp only [List.length_cons, List.length_nil]; omega) | (simp [ints]; done) | (simp; omega))) | ((with_reducible refine (?_ : (_ : Nat) = _)); (first | (with_reducible rfl) | (simp; done) | (simp only [fr_len]) | (simp only [ints_len]) | omega | (simp [*]; done))) | (refine And.intro ?_ ?_) | (intro h; first | (exact Bool.noConfusion h) | ((simp only [decide_eq_true_eq, decide_eq_false_iff_not, beq_iff_eq, bne_iff_ne, ne_eq, beq_eq_false_iff_ne, bne_eq_false_iff_eq, Bool.not_eq_true', Bool.not_eq_false', Bool.not_eq_true, Bool.not_eq_false, Int.not_le, Int.not_lt, Bool.and_eq_true, Bool.or_eq_true, Bool.or_eq_false_iff, Bool.and_eq_false_iff] at h); (try (exfalso; omega))) | skip) | ((refine (?_ : ACall _ _ _ _ _ _ _)); first | ((apply abox (a3)); (focus (exact rfl)); (focus (exact rfl)); (focus (exact rfl)); (focus (repeat' (first | exact rfl | (refine And.intro ?_ ?_) | (simp; done) | omega))); (focus (repeat' (first | exact trivial | exact rfl | (refine And.intro ?_ ?_))))) | ((apply abox (b3)); (focus (exact rfl)); (focus (exact rfl)); (focus (exact rfl)); (focus (repeat' (first | exact rfl | (refine And.intro ?_ ?_) | (simp; done) | omega))); (focus (repeat' (first | exact trivial | exact rfl | (refine And.intro ?_ ?_))))) | ((apply abox (d3)); (focus (exact rfl)); (focus (exact rfl)); (focus (exact rfl)); (focus (repeat' (first | exact rfl | (refine And.intro ?_ ?_) | (simp; done) | omega))); (focus (repeat' (first | exact trivial | exact rfl | (refine And.intro ?_ ?_))))) | ((apply acall (spec_foInverse _ _ _ _)); (focus (repeat' (first | exact rfl | (refine And.intro ?_ ?_) | (simp only [ints_len]; done) | (simp; done) | omega)))) | ((apply acall (spec_foMul _ _ _ _ _ _ _ _)); (focus (repeat' (first | exact rfl | (refine And.intro ?_ ?_) | (simp only [ints_len]; done) | (simp; done) | omega))))) | ((with_reducible refine (?_ : chk _ _ = true)); kernel_rfl) | ((with_reducible refine (?_ : (_ : IntKind) = _)); (with_reducible rfl)) | ((with_reducible refine (?_ : eqC (C.pvw _ _ _) (C.pvw _ _ _))); exact rfl) | ((with_reducible refine (?_ : eqC (C.pv (Value.int IntKind.u64 _)) _)); exact rfl) | exact trivial | (refine Exists.intro _ (And.intro rfl ?_)))
  · refine ⟨mulT (mulT (invT (a, b, c, d)) (5, 2, 2, 1)) (a, b, c, d), s3, I64_mul _ _, ⟨by omega, by omega⟩, ?_⟩
    refine afun_intro fn17 rfl rfl (by repeat' (first | exact trivial | (simp; done) | refine ⟨?_, ?_⟩)) ?_
    unfold ac17
    repeat' (first | ((with_reducible refine (?_ : (_ : Bool) = _)); (with_reducible rfl)) | ((with_reducible refine (?_ : (_ : Nat × Nat) = _)); (with_reducible rfl)) | (with_reducible refine leafRI ?_) | (with_reducible refine leafRB ?_) | (with_reducible refine leafI ?_) | (with_reducible refine leafB ?_) | ((with_reducible refine (?_ : (_ : Int) = _)); (with_reducible rfl)) | ((with_reducible refine (?_ : (_ : List (List Value)) = _)); (with_reducible rfl)) | ((with_reducible refine (?_ : (_ : Int) ≠ 0)); (first | assumption | omega | (simp; done) | (simp only [ints_len] at *; omega) | (simp; omega))) | ((with_reducible refine (?_ : (_ : Int) ≤ _)); (first | assumption | omega | (simp; done) | (simp only [ints_len] at *; omega) | (simp; omega))) | ((with_reducible refine (?_ : (_ : Int) < _)); (first | assumption | omega | (simp; done) | (simp only [ints_len] at *; omega) | (simp; omega))) | ((with_reducible refine (?_ : (_ : Nat) ≤ _)); (first | omega | (simp only [List.length_cons, List.length_nil]; omega) | (simp [ints]; done) | (simp; omega))) | ((with_reducible refine (?_ : (_ : Nat) < _)); (first | omega | (simp only [List.length_cons, List.length_nil]; omega) | (simp [ints]; done) | (simp; omega))) | ((with_reducible refine (?_ : (_ : Nat) = _)); (first | (with_reducible rfl) | (simp; done) | (simp only [fr_len]) | (simp only [ints_len]) | omega | (simp [*]; done))) | (refine And.intro ?_ ?_) | (intro h; first | (exact Bool.noConfusion h) | ((simp only [decide_eq_true_eq, decide_eq_false_iff_not, beq_iff_eq, bne_iff_ne, ne_eq, beq_eq_false_iff_ne, bne_eq_false_iff_eq, Bool.not_eq_true', Bool.not_eq_false', Bool.not_eq_true, Bool.not_eq_false, Int.not_le, Int.not_lt, Bool.and_eq_true, Bool.or_eq_true, Bool.or_eq_false_iff, Bool.and_eq_false_iff] at h); (try (exfalso; omega))) | skip) | ((refine (?_ : ACall _ _ _ _ _ _ _)); first | ((apply abox (a3)); (focus (exact rfl)); (focus (exact rfl)); (focus (exact rfl)); (focus (repeat' (first | exact rfl | (refine And.intro ?_ ?_) | (simp; done) | omega))); (focus (repeat' (first | exact trivial | exact rfl | (refine And.intro ?_ ?_))))) | ((apply abox (b3)); (focus (exact rfl)); (focus (exact rfl)); (focus (exact rfl)); (focus (repeat' (first | exact rfl | (refine And.intro ?_ ?_) | (simp; done) | omega))); (focus (repeat' (first | exact trivial | exact rfl | (refine And.intro ?_ ?_))))) | ((apply abox (d3)); (focus (exact rfl)); (focus (exact rfl)); (focus (exact rfl)); (focus (repeat' (first | exact rfl | (refine And.intro ?_ ?_) | (simp; done) | omega))); (focus (repeat' (first | exact trivial | exact rfl | (refine And.intro ?_ ?_))))) | ((apply acall (spec_foInverse _ _ _ _)); (focus (repeat' (first | exact rfl | (refine And.intro ?_ ?_) | (simp only [ints_len]; done) | (simp; done) | omega)))) | ((apply acall (spec_foMul _ _ _ _ _ _ _ _)); (focus (repeat' (first | exact rfl | (refine And.intro ?_ ?_) | (simp only [ints_len]; done) | (simp; done) | omega))))) | ((with_reducible refine (?_ : chk _ _ = true)); kernel_rfl) | ((with_reducible refine (?_ : (_ : IntKind) = _)); (with_reducible rfl)) | ((with_reducible refine (?_ : eqC (C.pvw _ _ _) (C.pvw _ _ _))); exact rfl) | ((with_reducible refine (?_ : eqC (C.pv (Value.int IntKind.u64 _)) _)); exact rfl) | exact trivial | (refine Exists.intro _ (And.intro rfl ?_)))
  · refine ⟨mulT (mulT (invT (a, b, c, d)) (3, 4, 2, 3)) (a, b, c, d), s3, I64_mul _ _, ⟨by omega, by omega⟩, ?_⟩
    refine afun_intro fn17 rfl rfl (by repeat' (first | exact trivial | (simp; done) | refine ⟨?_, ?_⟩)) ?_
    unfold ac17
    repeat' (first | ((with_reducible refine (?_ : (_ : Bool) = _)); (with_reducible rfl)) | ((with_reducible refine (?_ : (_ : Nat × Nat) = _)); (with_reducible rfl)) | (with_reducible refine leafRI ?_) | (with_reducible refine leafRB ?_) | (with_reducible refine leafI ?_) | (with_reducible refine leafB ?_) | ((with_reducible refine (?_ : (_ : Int) = _)); (with_reducible rfl)) | ((with_reducible refine (?_ : (_ : List (List Value)) = _)); (with_reducible rfl)) | ((with_reducible refine (?_ : (_ : Int) ≠ 0)); (first | assumption | omega | (simp; done) | (simp only [ints_len] at *; omega) | (simp; omega))) | ((with_reducible refine (?_ : (_ : Int) ≤ _)); (first | assumption | omega | (simp; done) | (simp only [ints_len] at *; omega) | (simp; omega))) | ((with_reducible refine (?_ : (_ : Int) < _)); (first | assumption | omega | (simp; done) | (simp only [ints_len] at *; omega) | (simp; omega))) | ((with_reducible refine (?_ : (_ : Nat) ≤ _)); (first | omega | (simp only [List.length_cons, List.length_nil]; omega) | (simp [ints]; done) | (simp; omega))) | ((with_reducible refine (?_ : (_ : Nat) < _)); (first | omega | (simp only [List.length_cons, List.length_nil]; omega) | (simp [ints]; done) | (simp; omega))) | ((with_reducible refine (?_ : (_ : Nat) = _)); (first | (with_reducible rfl) | (simp; done) | (simp only [fr_len]) | (simp only [ints_len]) | omega | (simp [*]; done))) | (refine And.intro ?_ ?_) | (intro h; first | (exact Bool.noConfusion h) | ((simp only [decide_eq_true_eq, decide_eq_false_iff_not, beq_iff_eq, bne_iff_ne, ne_eq, beq_eq_false_iff_ne, bne_eq_false_iff_eq, Bool.not_eq_true', Bool.not_eq_false', Bool.not_eq_true, Bool.not_eq_false, Int.not_le, Int.not_lt, Bool.and_eq_true, Bool.or_eq_true, Bool.or_eq_false_iff, Bool.and_eq_false_iff] at h); (try (exfalso; omega))) | skip) | ((refine (?_ : ACall _ _ _ _ _ _ _)); first | ((apply abox (a3)); (focus (exact rfl)); (focus (exact rfl)); (focus (exact rfl)); (focus (repeat' (first | exact rfl | (refine And.intro ?_ ?_) | (simp; done) | omega))); (focus (repeat' (first | exact trivial | exact rfl | (refine And.intro ?_ ?_))))) | ((apply abox (b3)); (focus (exact rfl)); (focus (exact rfl)); (focus (exact rfl)); (focus (repeat' (first | exact rfl | (refine And.intro ?_ ?_) | (simp; done) | omega))); (focus (repeat' (first | exact trivial | exact rfl | (refine And.intro ?_ ?_))))) | ((apply abox (d3)); (focus (exact rfl)); (focus (exact rfl)); (focus (exact rfl)); (focus (repeat' (first | exact rfl | (refine And.intro ?_ ?_) | (simp; done) | omega))); (focus (repeat' (first | exact trivial | exact rfl | (refine And.intro ?_ ?_))))) | ((apply acall (spec_foInverse _ _ _ _)); (focus (repeat' (first | exact rfl | (refine And.intro ?_ ?_) | (simp only [ints_len]; done) | (simp; done) | omega)))) | ((apply acall (spec_foMul _ _ _ _ _ _ _ _)); (focus (repeat' (first | exact rfl | (refine And.intro ?_ ?_) | (simp only [ints_len]; done) | (simp; done) | omega))))) | ((with_reducible refine (?_ : chk _ _ = true)); kernel_rfl) | ((with_reducible refine (?_ : (_ : IntKind) = _)); (with_reducible rfl)) | ((with_reducible refine (?_ : eqC (C.pvw _ _ _) (C.pvw _ _ _))); exact rfl) | ((with_reducible refine (?_ : eqC (C.pv (Value.int IntKind.u64 _)) _)); exact rfl) | exact trivial | (refine Exists.intro _ (And.intro rfl ?_)))
  · refine ⟨mulT (mulT (invT (a, b, c, d)) (0, -1, 1, 30)) (a, b, c, d), s3, I64_mul _ _, ⟨by omega, by omega⟩, ?_⟩
    refine afun_intro fn17 rfl rfl (by repeat' (first | exact trivial | (simp; done) | refine ⟨?_, ?_⟩)) ?_
    unfold ac17
    repeat' (first | ((with_reducible refine (?_ : (_ : Bool) = _)); (with_reducible rfl)) | ((with_reducible refine (?_ : (_ : Nat × Nat) = _)); (with_reducible rfl)) | (with_reducible refine leafRI ?_) | (with_reducible refine leafRB ?_) | (with_reducible refine leafI ?_) | (with_reducible refine leafB ?_) | ((with_reducible refine (?_ : (_ : Int) = _)); (with_reducible rfl)) | ((with_reducible refine (?_ : (_ : List (List Value)) = _)); (with_reducible rfl)) | ((with_reducible refine (?_ : (_ : Int) ≠ 0)); (first | assumption | omega | (simp; done) | (simp only [ints_len] at *; omega) | (simp; omega))) | ((with_reducible refine (?_ : (_ : Int) ≤ _)); (first | assumption | omega | (simp; done) | (simp only [ints_len] at *; omega) | (simp; omega))) | ((with_reducible refine (?_ : (_ : Int) < _)); (first | assumption | omega | (simp; done) | (simp only [ints_len] at *; omega) | (simp; omega))) | ((with_reducible refine (?_ : (_ : Nat) ≤ _)); (first | omega | (simp only [List.length_cons, List.length_nil]; omega) | (simp [ints]; done) | (simp; omega))) | ((with_reducible refine (?_ : (_ : Nat) < _)); (first | omega | (simp only [List.length_cons, List.length_nil]; omega) | (simp [ints]; done) | (simp; omega))) | ((with_reducible refine (?_ : (_ : Nat) = _)); (first | (with_reducible rfl) | (simp; done) | (simp only [fr_len]) | (simp only [ints_len]) | omega | (simp [*]; done))) | (refine And.intro ?_ ?_) | (intro h; first | (exact Bool.noConfusion h) | ((simp only [decide_eq_true_eq, decide_eq_false_iff_not, beq_iff_eq, bne_iff_ne, ne_eq, beq_eq_false_iff_ne, bne_eq_false_iff_eq, Bool.not_eq_true', Bool.not_eq_false', Bool.not_eq_true, Bool.not_eq_false, Int.not_le, Int.not_lt, Bool.and_eq_true, Bool.or_eq_true, Bool.or_eq_false_iff, Bool.and_eq_false_iff] at h); (try (exfalso; omega))) | skip) | ((refine (?_ : ACall _ _ _ _ _ _ _)); first | ((apply abox (a3)); (focus (exact rfl)); (focus (exact rfl)); (focus (exact rfl)); (focus (repeat' (first | exact rfl | (refine And.intro ?_ ?_) | (simp; done) | omega))); (focus (repeat' (first | exact trivial | exact rfl | (refine And.intro ?_ ?_))))) | ((apply abox (b3)); (focus (exact rfl)); (focus (exact rfl)); (focus (exact rfl)); (focus (repeat' (first | exact rfl | (refine And.intro ?_ ?_) | (simp; done) | omega))); (focus (repeat' (first | exact trivial | exact rfl | (refine And.intro ?_ ?_))))) | ((apply abox (d3)); (focus (exact rfl)); (focus (exact rfl)); (focus (exact rfl)); (focus (repeat' (first | exact rfl | (refine And.intro ?_ ?_) | (simp; done) | omega))); (focus (repeat' (first | exact trivial | exact rfl | (refine And.intro ?_ ?_))))) | ((apply acall (spec_foInverse _ _ _ _)); (focus (repeat' (first | exact rfl | (refine And.intro ?_ ?_) | (simp only [ints_len]; done) | (simp; done) | omega)))) | ((apply acall (spec_foMul _ _ _ _ _ _ _ _)); (focus (repeat' (first | exact rfl | (refine And.intro ?_ ?_) | (simp only [ints_len]; done) | (simp; done) | omega))))) | ((with_reducible refine (?_ : chk _ _ = true)); kernel_rfl) | ((with_reducible refine (?_ : (_ : IntKind) = _)); (with_reducible rfl)) | ((with_reducible refine (?_ : eqC (C.pvw _ _ _) (C.pvw _ _ _))); exact rfl) | ((with_reducible refine (?_ : eqC (C.pv (Value.int IntKind.u64 _)) _)); exact rfl) | exact trivial | (refine Exists.intro _ (And.intro rfl ?_)))
  · refine ⟨mulT (mulT (invT (a, b, c, d)) (0, -1, 1, 32)) (a, b, c, d), s3, I64_mul _ _, ⟨by omega, by omega⟩, ?_⟩
    refine afun_intro fn17 rfl rfl (by repeat' (first | exact trivial | (simp; done) | refine ⟨?_, ?_⟩)) ?_
    unfold ac17
    repeat' (first | ((with_reducible refine (?_ : (_ : Bool) = _)); (with_reducible rfl)) | ((with_reducible refine (?_ : (_ : Nat × Nat) = _)); (with_reducible rfl)) | (with_reducible refine leafRI ?_) | (with_reducible refine leafRB ?_) | (with_reducible refine leafI ?_) | (with_reducible refine leafB ?_) | ((with_reducible refine (?_ : (_ : Int) = _)); (with_reducible rfl)) | ((with_reducible refine (?_ : (_ : List (List Value)) = _)); (with_reducible rfl)) | ((with_reducible refine (?_ : (_ : Int) ≠ 0)); (first | assumption | omega | (simp; done) | (simp only [ints_len] at *; omega) | (simp; omega))) | ((with_reducible refine (?_ : (_ : Int) ≤ _)); (first | assumption | omega | (simp; done) | (simp only [ints_len] at *; omega) | (simp; omega))) | ((with_reducible refine (?_ : (_ : Int) < _)); (first | assumption | omega | (simp; done) | (simp only [ints_len] at *; omega) | (simp; omega))) | ((with_reducible refine (?_ : (_ : Nat) ≤ _)); (first | omega | (simp only [List.length_cons, List.length_nil]; omega) | (simp [ints]; done) | (simp; omega))) | ((with_reducible refine (?_ : (_ : Nat) < _)); (first | omega | (simp only [List.length_cons, List.length_nil]; omega) | (simp [ints]; done) | (simp; omega))) | ((with_reducible refine (?_ : (_ : Nat) = _)); (first | (with_reducible rfl) | (simp; done) | (simp only [fr_len]) | (simp only [ints_len]) | omega | (simp [*]; done))) | (refine And.intro ?_ ?_) | (intro h; first | (exact Bool.noConfusion h) | ((simp only [decide_eq_true_eq, decide_eq_false_iff_not, beq_iff_eq, bne_iff_ne, ne_eq, beq_eq_false_iff_ne, bne_eq_false_iff_eq, Bool.not_eq_true', Bool.not_eq_false', Bool.not_eq_true, Bool.not_eq_false, Int.not_le, Int.not_lt, Bool.and_eq_true, Bool.or_eq_true, Bool.or_eq_false_iff, Bool.and_eq_false_iff] at h); (try (exfalso; omega))) | skip) | ((refine (?_ : ACall _ _ _ _ _ _ _)); first | ((apply abox (a3)); (focus (exact rfl)); (focus (exact rfl)); (focus (exact rfl)); (focus (repeat' (first | exact rfl | (refine And.intro ?_ ?_) | (simp; done) | omega))); (focus (repeat' (first | exact trivial | exact rfl | (refine And.intro ?_ ?_))))) | ((apply abox (b3)); (focus (exact rfl)); (focus (exact rfl)); (focus (exact rfl)); (focus (repeat' (first | exact rfl | (refine And.intro ?_ ?_) | (simp; done) | omega))); (focus (repeat' (first | exact trivial | exact rfl | (refine And.intro ?_ ?_))))) | ((apply abox (d3)); (focus (exact rfl)); (focus (exact rfl)); (focus (exact rfl)); (focus (repeat' (first | exact rfl | (refine And.intro ?_ ?_) | (simp; done) | omega))); (focus (repeat' (first | exact trivial | exact rfl | (refine And.intro ?_ ?_))))) | ((apply acall (spec_foInverse _ _ _ _)); (focus (repeat' (first | exact rfl | (refine And.intro ?_ ?_) | (simp only [ints_len]; done) | (simp; done) | omega)))) | ((apply acall (spec_foMul _ _ _ _ _ _ _ _)); (focus (repeat' (first | exact rfl | (refine And.intro ?_ ?_) | (simp only [ints_len]; done) | (simp; done) | omega))))) | ((with_reducible refine (?_ : chk _ _ = true)); kernel_rfl) | ((with_reducible refine (?_ : (_ : IntKind) = _)); (with_reducible rfl)) | ((with_reducible refine (?_ : eqC (C.pvw _ _ _) (C.pvw _ _ _))); exact rfl) | ((with_reducible refine (?_ : eqC (C.pv (Value.int IntKind.u64 _)) _)); exact rfl) | exact trivial | (refine Exists.intro _ (And.intro rfl ?_)))
  · refine ⟨mulT (mulT (invT (a, b, c, d)) (1, 29, 1, 30)) (a, b, c, d), s3, I64_mul _ _, ⟨by omega, by omega⟩, ?_⟩
    refine afun_intro fn17 rfl rfl (by repeat' (first | exact trivial | (simp; done) | refine ⟨?_, ?_⟩)) ?_
    unfold ac17
    repeat' (first | ((with_reducible refine (?_ : (_ : Bool) = _)); (with_reducible rfl)) | ((with_reducible refine (?_ : (_ : Nat × Nat) = _)); (with_reducible rfl)) | (with_reducible refine leafRI ?_) | (with_reducible refine leafRB ?_) | (with_reducible refine leafI ?_) | (with_reducible refine leafB ?_) | ((with_reducible refine (?_ : (_ : Int) = _)); (with_reducible rfl)) | ((with_reducible refine (?_ : (_ : List (List Value)) = _)); (with_reducible rfl)) | ((with_reducible refine (?_ : (_ : Int) ≠ 0)); (first | assumption | omega | (simp; done) | (simp only [ints_len] at *; omega) | (simp; omega))) | ((with_reducible refine (?_ : (_ : Int) ≤ _)); (first | assumption | omega | (simp; done) | (simp only [ints_len] at *; omega) | (simp; omega))) | ((with_reducible refine (?_ : (_ : Int) < _)); (first | assumption | omega | (simp; done) | (simp only [ints_len] at *; omega) | (simp; omega))) | ((with_reducible refine (?_ : (_ : Nat) ≤ _)); (first | omega | (simp only [List.length_cons, List.length_nil]; omega) | (simp [ints]; done) | (simp; omega))) | ((with_reducible refine (?_ : (_ : Nat) < _)); (first | omega | (simp only [List.length_cons, List.length_nil]; omega) | (simp [ints]; done) | (simp; omega))) | ((with_reducible refine (?_ : (_ : Nat) = _)); (first | (with_reducible rfl) | (simp; done) | (simp only [fr_len]) | (simp only [ints_len]) | omega | (simp [*]; done))) | (refine And.intro ?_ ?_) | (intro h; first | (exact Bool.noConfusion h) | ((simp only [decide_eq_true_eq, decide_eq_false_iff_not, beq_iff_eq, bne_iff_ne, ne_eq, beq_eq_false_iff_ne, bne_eq_false_iff_eq, Bool.not_eq_true', Bool.not_eq_false', Bool.not_eq_true, Bool.not_eq_false, Int.not_le, Int.not_lt, Bool.and_eq_true, Bool.or_eq_true, Bool.or_eq_false_iff, Bool.and_eq_false_iff] at h); (try (exfalso; omega))) | skip) | ((refine (?_ : ACall _ _ _ _ _ _ _)); first | ((apply abox (a3)); (focus (exact rfl)); (focus (exact rfl)); (focus (exact rfl)); (focus (repeat' (first | exact rfl | (refine And.intro ?_ ?_) | (simp; done) | omega))); (focus (repeat' (first | exact trivial | exact rfl | (refine And.intro ?_ ?_))))) | ((apply abox (b3)); (focus (exact rfl)); (focus (exact rfl)); (focus (exact rfl)); (focus (repeat' (first | exact rfl | (refine And.intro ?_ ?_) | (simp; done) | omega))); (focus (repeat' (first | exact trivial | exact rfl | (refine And.intro ?_ ?_))))) | ((apply abox (d3)); (focus (exact rfl)); (focus (exact rfl)); (focus (exact rfl)); (focus (repeat' (first | exact rfl | (refine And.intro ?_ ?_) | (simp; done) | omega))); (focus (repeat' (first | exact trivial | exact rfl | (refine And.intro ?_ ?_))))) | ((apply acall (spec_foInverse _ _ _ _)); (focus (repeat' (first | exact rfl | (refine And.intro ?_ ?_) | (simp only [ints_len]; done) | (simp; done) | omega)))) | ((apply acall (spec_foMul _ _ _ _ _ _ _ _)); (focus (repeat' (first | exact rfl | (refine And.intro ?_ ?_) | (simp only [ints_len]; done) | (simp; done) | omega))))) | ((with_reducible refine (?_ : chk _ _ = true)); kernel_rfl) | ((with_reducible refine (?_ : (_ : IntKind) = _)); (with_reducible rfl)) | ((with_reducible refine (?_ : eqC (C.pvw _ _ _) (C.pvw _ _ _))); exact rfl) | ((with_reducible refine (?_ : eqC (C.pv (Value.int IntKind.u64 _)) _)); exact rfl) | exact trivial | (refine Exists.intro _ (And.intro rfl ?_)))

theorem DrawConjugateMatrix_ex (v : Value) (l : List Int) (hl : BysOk l) : ∃ (m g : T4), AFun Try.prog 5 [] [.c (.pvw v 1 (byts l))] (.tup [(true, [cI m.1, cI m.2.1, cI m.2.2.1, cI m.2.2.2]), (true, [cI g.1, cI g.2.1, cI g.2.2.1, cI g.2.2.2])]) [] [] := by
  obtain ⟨m, s1, a1, a2, a3⟩ := special_ex v l hl (0, 0) (cv_zero (by omega))
  obtain ⟨g, s3, d1, d2, d3⟩ := proper_ex v l hl s1 ⟨by dsimp only at a2; omega, by dsimp only at a2; omega⟩
  refine ⟨m, g, ?_⟩
  refine afun_intro fn5 rfl rfl (by repeat' (first | exact trivial | (simp; done) | refine ⟨?_, ?_⟩)) ?_
  unfold ac5
  repeat' (first | ((with_reducible refine (?_ : (_ : Bool) = _)); (with_reducible rfl)) | ((with_reducible refine (?_ : (_ : Nat × Nat) = _)); (with_reducible rfl)) | (with_reducible refine leafRI ?_) | (with_reducible refine leafRB ?_) | (with_reducible refine leafI ?_) | (with_reducible refine leafB ?_) | ((with_reducible refine (?_ : (_ : Int) = _)); (with_reducible rfl)) | ((with_reducible refine (?_ : (_ : List (List Value)) = _)); (with_reducible rfl)) | ((with_reducible refine (?_ : (_ : Int) ≠ 0)); (first | assumption | omega | (simp; done) | (simp only [ints_len] at *; omega) | (simp; omega))) | ((with_reducible refine (?_ : (_ : Int) ≤ _)); (first | assumption | omega | (simp; done) | (simp only [ints_len] at *; omega) | (simp; omega))) | ((with_reducible refine (?_ : (_ : Int) < _)); (first | assumption | omega | (simp; done) | (simp only [ints_len] at *; omega) | (simp; omega))) | ((with_reducible refine (?_ : (_ : Nat) ≤ _)); (first | omega | (simp only [List.length_cons, List.length_nil]; omega) | (simp [ints]; done) | (simp; omega))) | ((with_reducible refine (?_ : (_ : Nat) < _)); (first | omega | (simp only [List.length_cons, List.length_nil]; omega) | (simp [ints]; done) | (simp; omega))) | ((with_reducible refine (?_ : (_ : Nat) = _)); (first | (with_reducible rfl) | (simp; done) | (simp only [fr_len]) | (simp only [ints_len]) | omega | (simp [*]; done))) | (refine And.intro ?_ ?_) | (intro h; first | (exact Bool.noConfusion h) | ((simp only [decide_eq_true_eq, decide_eq_false_iff_not, beq_iff_eq, bne_iff_ne, ne_eq, beq_eq_false_iff_ne, bne_eq_false_iff_eq, Bool.not_eq_true', Bool.not_eq_false', Bool.not_eq_true, Bool.not_eq_false, Int.not_le, Int.not_lt, Bool.and_eq_true, Bool.or_eq_true, Bool.or_eq_false_iff, Bool.and_eq_false_iff] at h); (try (first | (exact Bool.noConfusion h) | (exact (h trivial).elim)))) | skip) | ((refine (?_ : ACall _ _ _ _ _ _ _)); first | ((apply abox (a3)); (focus (exact rfl)); (focus (exact rfl)); (focus (exact rfl)); (focus (repeat' (first | exact rfl | (refine And.intro ?_ ?_) | (simp; done) | omega))); (focus (repeat' (first | exact trivial | exact rfl | (refine And.intro ?_ ?_))))) | ((apply abox (d3)); (focus (exact rfl)); (focus (exact rfl)); (focus (exact rfl)); (focus (repeat' (first | exact rfl | (refine And.intro ?_ ?_) | (simp; done) | omega))); (focus (repeat' (first | exact trivial | exact rfl | (refine And.intro ?_ ?_)))))) | ((with_reducible refine (?_ : chk _ _ = true)); kernel_rfl) | ((with_reducible refine (?_ : (_ : IntKind) = _)); (with_reducible rfl)) | ((with_reducible refine (?_ : eqC (C.pvw _ _ _) (C.pvw _ _ _))); exact rfl) | ((with_reducible refine (?_ : eqC (C.pv (Value.int IntKind.u64 _)) _)); exact rfl) | exact trivial)

theorem DrawMatrixWord_ex (v : Value) (l : List Int) (hl : BysOk l) : ∃ (m : T4), AFun Try.prog 39 [] [.c (.pvw v 1 (byts l))] (Ma m.1 m.2.1 m.2.2.1 m.2.2.2) [] [] := by
  obtain ⟨m, s1, a1, a2, a3⟩ := special_ex v l hl (0, 0) (cv_zero (by omega))
  refine ⟨m, ?_⟩
  refine afun_intro fn39 rfl rfl (by repeat' (first | exact trivial | (simp; done) | refine ⟨?_, ?_⟩)) ?_
  unfold ac39
  repeat' (first | ((with_reducible refine (?_ : (_ : Bool) = _)); (with_reducible rfl)) | ((with_reducible refine (?_ : (_ : Nat × Nat) = _)); (with_reducible rfl)) | (with_reducible refine leafRI ?_) | (with_reducible refine leafRB ?_) | (with_reducible refine leafI ?_) | (with_reducible refine leafB ?_) | ((with_reducible refine (?_ : (_ : Int) = _)); (with_reducible rfl)) | ((with_reducible refine (?_ : (_ : List (List Value)) = _)); (with_reducible rfl)) | ((with_reducible refine (?_ : (_ : Int) ≠ 0)); (first | assumption | omega | (simp; done) | (simp only [ints_len] at *; omega) | (simp; omega))) | ((with_reducible refine (?_ : (_ : Int) ≤ _)); (first | assumption | omega | (simp; done) | (simp only [ints_len] at *; omega) | (simp; omega))) | ((with_reducible refine (?_ : (_ : Int) < _)); (first | assumption | omega | (simp; done) | (simp only [ints_len] at *; omega) | (simp; omega))) | ((with_reducible refine (?_ : (_ : Nat) ≤ _)); (first | omega | (simp only [List.length_cons, List.length_nil]; omega) | (simp [ints]; done) | (simp; omega))) | ((with_reducible refine (?_ : (_ : Nat) < _)); (first | omega | (simp only [List.length_cons, List.length_nil]; omega) | (simp [ints]; done) | (simp; omega))) | ((with_reducible refine (?_ : (_ : Nat) = _)); (first | (with_reducible rfl) | (simp; done) | (simp only [fr_len]) | (simp only [ints_len]) | omega | (simp [*]; done))) | (refine And.intro ?_ ?_) | (intro h; first | (exact Bool.noConfusion h) | ((simp only [decide_eq_true_eq, decide_eq_false_iff_not, beq_iff_eq, bne_iff_ne, ne_eq, beq_eq_false_iff_ne, bne_eq_false_iff_eq, Bool.not_eq_true', Bool.not_eq_false', Bool.not_eq_true, Bool.not_eq_false, Int.not_le, Int.not_lt, Bool.and_eq_true, Bool.or_eq_true, Bool.or_eq_false_iff, Bool.and_eq_false_iff] at h); (try (first | (exact Bool.noConfusion h) | (exact (h trivial).elim)))) | skip) | ((refine (?_ : ACall _ _ _ _ _ _ _)); first | ((apply abox (a3)); (focus (exact rfl)); (focus (exact rfl)); (focus (exact rfl)); (focus (repeat' (first | exact rfl | (refine And.intro ?_ ?_) | (simp; done) | omega))); (focus (repeat' (first | exact trivial | exact rfl | (refine And.intro ?_ ?_)))))) | ((with_reducible refine (?_ : chk _ _ = true)); kernel_rfl) | ((with_reducible refine (?_ : (_ : IntKind) = _)); (with_reducible rfl)) | ((with_reducible refine (?_ : eqC (C.pvw _ _ _) (C.pvw _ _ _))); exact rfl) | ((with_reducible refine (?_ : eqC (C.pv (Value.int IntKind.u64 _)) _)); exact rfl) | exact trivial)

theorem DrawFixedForm_ex (v : Value) (l : List Int) (hl : BysOk l) : ∃ (m : T4), AFun Try.prog 13 [] [.c (.pvw v 1 (byts l))] (Ma m.1 m.2.1 m.2.2.1 m.2.2.2) [] [] := by
  obtain ⟨m, h⟩ := DrawMatrixWord_ex v l hl
  refine ⟨m, ?_⟩
  refine afun_intro fn13 rfl rfl (by repeat' (first | exact trivial | (simp; done) | refine ⟨?_, ?_⟩)) ?_
  unfold ac13
  repeat' (first | ((with_reducible refine (?_ : (_ : Bool) = _)); (with_reducible rfl)) | ((with_reducible refine (?_ : (_ : Nat × Nat) = _)); (with_reducible rfl)) | (with_reducible refine leafRI ?_) | (with_reducible refine leafRB ?_) | (with_reducible refine leafI ?_) | (with_reducible refine leafB ?_) | ((with_reducible refine (?_ : (_ : Int) = _)); (with_reducible rfl)) | ((with_reducible refine (?_ : (_ : List (List Value)) = _)); (with_reducible rfl)) | ((with_reducible refine (?_ : (_ : Int) ≠ 0)); (first | assumption | omega | (simp; done) | (simp only [ints_len] at *; omega) | (simp; omega))) | ((with_reducible refine (?_ : (_ : Int) ≤ _)); (first | assumption | omega | (simp; done) | (simp only [ints_len] at *; omega) | (simp; omega))) | ((with_reducible refine (?_ : (_ : Int) < _)); (first | assumption | omega | (simp; done) | (simp only [ints_len] at *; omega) | (simp; omega))) | ((with_reducible refine (?_ : (_ : Nat) ≤ _)); (first | omega | (simp only [List.length_cons, List.length_nil]; omega) | (simp [ints]; done) | (simp; omega))) | ((with_reducible refine (?_ : (_ : Nat) < _)); (first | omega | (simp only [List.length_cons, List.length_nil]; omega) | (simp [ints]; done) | (simp; omega))) | ((with_reducible refine (?_ : (_ : Nat) = _)); (first | (with_reducible rfl) | (simp; done) | (simp only [fr_len]) | (simp only [ints_len]) | omega | (simp [*]; done))) | (refine And.intro ?_ ?_) | (intro h; first | (exact Bool.noConfusion h) | ((simp only [decide_eq_true_eq, decide_eq_false_iff_not, beq_iff_eq, bne_iff_ne, ne_eq, beq_eq_false_iff_ne, bne_eq_false_iff_eq, Bool.not_eq_true', Bool.not_eq_false', Bool.not_eq_true, Bool.not_eq_false, Int.not_le, Int.not_lt, Bool.and_eq_true, Bool.or_eq_true, Bool.or_eq_false_iff, Bool.and_eq_false_iff] at h); (try (first | (exact Bool.noConfusion h) | (exact (h trivial).elim)))) | skip) | ((refine (?_ : ACall _ _ _ _ _ _ _)); first | ((apply acall (h)); (focus ((repeat' (first | exact rfl | (refine And.intro ?_ ?_) | (simp only [ints_len]; done))); done)))) | ((with_reducible refine (?_ : chk _ _ = true)); kernel_rfl) | ((with_reducible refine (?_ : (_ : IntKind) = _)); (with_reducible rfl)) | ((with_reducible refine (?_ : eqC (C.pvw _ _ _) (C.pvw _ _ _))); exact rfl) | ((with_reducible refine (?_ : eqC (C.pv (Value.int IntKind.u64 _)) _)); exact rfl) | exact trivial)

end Go.Proofs.Ytdgfnmkiabjfnaa
