/- Cycles of indefinite forms: the plain laws. -/
import Derived.Test.YtnlabjnjcfapiaaF5
namespace Go.Proofs.Ytnlabjnjcfapiaa
open Go.RowKit
set_option maxRecDepth 100000

theorem php : ∀ (N : Nat) (f : Nat → Nat), (∀ i, i ≤ N → f i < N) → ∃ i j, i < j ∧ j ≤ N ∧ f i = f j
  | 0, f, h => absurd (h 0 (Nat.le_refl 0)) (Nat.not_lt_zero _)
  | N + 1, f, h => by
    by_cases hx : ∃ i, i ≤ N ∧ f i = f (N + 1)
    · obtain ⟨i, h1, h2⟩ := hx
      exact ⟨i, N + 1, by omega, Nat.le_refl _, h2⟩
    · have hx' : ∀ i, i ≤ N → f i ≠ f (N + 1) := fun i h1 h2 => hx ⟨i, h1, h2⟩
      obtain ⟨i, j, h1, h2, h3⟩ := php N (fun i => if f i = N then f (N + 1) else f i) (fun i hi => by
        have a := h i (by omega)
        have b := h (N + 1) (Nat.le_refl _)
        have c := hx' i hi
        split <;> omega)
      have ci := hx' i (by omega)
      have cj := hx' j h2
      refine ⟨i, j, h1, by omega, ?_⟩
      split at h3 <;> split at h3 <;> omega

/-- The root's place: r is the root of D, and D is no square. -/
structure RD (D r : Int) : Prop where
  p : 0 ≤ r
  l : r * r < D
  u : D < (r + 1) * (r + 1)
def ctop (r c : Int) : Int := if r < (c.natAbs : Int) then (c.natAbs : Int) else r
def ccb (r b c : Int) : Int := ctop r c - (ctop r c + b) % (2 * (c.natAbs : Int))
def cnx (D r : Int) (f : T3) : T3 := (f.2.2, ccb r f.2.1 f.2.2, (ccb r f.2.1 f.2.2 * ccb r f.2.1 f.2.2 - D).tdiv (4 * f.2.2))
def dis (D : Int) (f : T3) : Prop := f.2.1 * f.2.1 - 4 * f.1 * f.2.2 = D
def cyc (r : Int) (f : T3) : Bool := decide (0 < f.2.1) && decide (f.2.1 ≤ r) && decide (r - f.2.1 < 2 * (f.1.natAbs : Int)) && decide (2 * (f.1.natAbs : Int) ≤ r + f.2.1)
theorem cyc_iff {r : Int} {f : T3} : cyc r f = true ↔ 0 < f.2.1 ∧ f.2.1 ≤ r ∧ r - f.2.1 < 2 * (f.1.natAbs : Int) ∧ 2 * (f.1.natAbs : Int) ≤ r + f.2.1 := by
  simp only [cyc, Bool.and_eq_true, decide_eq_true_eq, and_assoc]

theorem ccb_ex (r b : Int) {c : Int} (hc : c ≠ 0) : ∃ e, ccb r b c = 2 * c * e - b ∧ ctop r c - 2 * (c.natAbs : Int) < ccb r b c ∧ ccb r b c ≤ ctop r c := by
  have hp : 0 < 2 * (c.natAbs : Int) := by omega
  have h1 := Int.emod_nonneg (ctop r c + b) (Int.ne_of_gt hp)
  have h2 := Int.emod_lt_of_pos (ctop r c + b) hp
  have h3 := Int.mul_ediv_add_emod (ctop r c + b) (2 * (c.natAbs : Int))
  unfold ccb
  rcases Int.natAbs_eq c with e | e
  · refine ⟨(ctop r c + b) / (2 * (c.natAbs : Int)), ?_, by omega, by omega⟩
    rw [← e] at h3 ⊢
    omega
  · refine ⟨-((ctop r c + b) / (2 * (c.natAbs : Int))), ?_, by omega, by omega⟩
    have e' : (c.natAbs : Int) = -c := by omega
    rw [e'] at h3 ⊢
    generalize (ctop r c + b) / (2 * -c) = q at *
    have : 2 * -c * q = 2 * c * -q := by grind
    omega

theorem ne_of_dis {D r : Int} (R : RD D r) {f : T3} (h : dis D f) : f.1 ≠ 0 ∧ f.2.2 ≠ 0 := by
  have key : ∀ b : Int, b * b ≠ D := by
    intro b hb
    have h1 := R.p
    have h2 := R.l
    have h3 := R.u
    rw [← Int.natAbs_mul_self] at hb
    generalize hB : (b.natAbs : Int) = B at *
    have hB0 : 0 ≤ B := by omega
    have hb' : B * B = D := by rw [← hb, ← hB]; simp
    by_cases hle : B ≤ r
    · have := Int.mul_le_mul hle hle hB0 h1
      omega
    · have := Int.mul_le_mul (show r + 1 ≤ B by omega) (show r + 1 ≤ B by omega) (by omega) hB0
      omega
  unfold dis at h
  refine ⟨fun e => key f.2.1 ?_, fun e => key f.2.1 ?_⟩
  · rw [e] at h; simpa using h
  · rw [e] at h; simpa using h

theorem cnx_ex {D r : Int} {f : T3} (R : RD D r) (h : dis D f) : ∃ e, cnx D r f = (f.2.2, 2 * f.2.2 * e - f.2.1, f.1 - f.2.1 * e + f.2.2 * e * e) ∧ ccb r f.2.1 f.2.2 = 2 * f.2.2 * e - f.2.1 ∧ ctop r f.2.2 - 2 * (f.2.2.natAbs : Int) < ccb r f.2.1 f.2.2 ∧ ccb r f.2.1 f.2.2 ≤ ctop r f.2.2 := by
  obtain ⟨_, hc⟩ := ne_of_dis R h
  obtain ⟨e, h1, h2, h3⟩ := ccb_ex r f.2.1 hc
  refine ⟨e, ?_, h1, h2, h3⟩
  unfold cnx
  rw [h1]
  unfold dis at h
  have : (2 * f.2.2 * e - f.2.1) * (2 * f.2.2 * e - f.2.1) - D = 4 * f.2.2 * (f.1 - f.2.1 * e + f.2.2 * e * e) := by grind
  rw [this, Int.mul_tdiv_cancel_left _ (by omega)]

theorem cnx_dis {D r : Int} {f : T3} (R : RD D r) (h : dis D f) : dis D (cnx D r f) := by
  obtain ⟨e, h1, _⟩ := cnx_ex R h
  rw [h1]
  unfold dis at *
  dsimp only
  grind

theorem cnx_dec {D r : Int} {f : T3} (R : RD D r) (h : dis D f) (hn : ¬ cyc r (cnx D r f) = true) : (cnx D r f).2.2.natAbs < f.2.2.natAbs := by
  obtain ⟨e, h1, h2, h3, h4⟩ := cnx_ex R h
  have hd := cnx_dis R h
  have hc := (ne_of_dis R h).2
  have hf1 : (cnx D r f).1 = f.2.2 := rfl
  have hf2 : (cnx D r f).2.1 = ccb r f.2.1 f.2.2 := rfl
  rw [cyc_iff, hf1, hf2] at hn
  unfold dis at hd
  rw [hf1, hf2] at hd
  generalize (cnx D r f).2.2 = c2 at *
  generalize ccb r f.2.1 f.2.2 = b2 at *
  generalize f.2.2 = c at *
  clear h1 h2 hf1 hf2 h
  have p := R.p
  have l := R.l
  have u := R.u
  have hm : ∃ m : Int, 0 < m ∧ (c.natAbs : Int) = m ∧ (c = m ∨ c = -m) := ⟨c.natAbs, by omega, rfl, by omega⟩
  obtain ⟨m, m0, m1, m2⟩ := hm
  have hk : ∃ n : Int, 0 ≤ n ∧ (c2.natAbs : Int) = n ∧ (c2 = n ∨ c2 = -n) := ⟨c2.natAbs, by omega, rfl, by omega⟩
  obtain ⟨n, n0, n1, n2⟩ := hk
  suffices n < m by omega
  have hmn : b2 * b2 - D = 4 * (m * n) ∨ b2 * b2 - D = -(4 * (m * n)) := by
    rcases m2 with rfl | rfl <;> rcases n2 with rfl | rfl <;> grind
  refine Int.not_le.1 fun hle => ?_
  have hmm : m * m ≤ m * n := Int.mul_le_mul_of_nonneg_left hle (by omega)
  rw [m1] at hn h3
  unfold ctop at h3 h4
  rw [m1] at h3 h4
  by_cases ht : r < m
  · rw [if_pos ht] at h3 h4
    have q1 : (r + 1) * (r + 1) ≤ m * m := Int.mul_le_mul (by omega) (by omega) (by omega) (by omega)
    have q2 : 0 ≤ (m - b2) * (m + b2) := Int.mul_nonneg (by omega) (by omega)
    have q3 : (m - b2) * (m + b2) = m * m - b2 * b2 := by grind
    have q4 : 0 ≤ b2 * b2 := by rw [← Int.natAbs_mul_self]; omega
    have q5 : 0 < m * m := Int.mul_pos m0 m0
    have q6 : 0 ≤ r * r := Int.mul_nonneg p p
    omega
  · rw [if_neg ht] at h3 h4
    have k : r + b2 < 2 * m := by omega
    have q1 : (r + 1 - b2) * (r + 1 + b2) ≤ (2 * m) * (2 * m) := Int.mul_le_mul (by omega) (by omega) (by omega) (by omega)
    have q2 : (r + 1 - b2) * (r + 1 + b2) = (r + 1) * (r + 1) - b2 * b2 := by grind
    have q3 : 0 ≤ (r - b2) * (r + b2) := Int.mul_nonneg (by omega) (by omega)
    have q4 : (r - b2) * (r + b2) = r * r - b2 * b2 := by grind
    have q5 : (2 * m) * (2 * m) = 4 * (m * m) := by grind
    omega

theorem cyc_c {D r : Int} {f : T3} (R : RD D r) (h : dis D f) (hc : cyc r f = true) : r - f.2.1 < 2 * (f.2.2.natAbs : Int) ∧ 2 * (f.2.2.natAbs : Int) ≤ r + f.2.1 := by
  obtain ⟨a1, a2, a3, a4⟩ := cyc_iff.1 hc
  have ha := (ne_of_dis R h).1
  have hcc := (ne_of_dis R h).2
  have p := R.p
  have l := R.l
  have u := R.u
  unfold dis at h
  generalize f.2.1 = b at *
  generalize f.2.2 = c at *
  generalize f.1 = a at *
  clear hc
  obtain ⟨m, m0, m1, m2⟩ : ∃ m : Int, 0 < m ∧ (c.natAbs : Int) = m ∧ (c = m ∨ c = -m) := ⟨c.natAbs, by omega, rfl, by omega⟩
  obtain ⟨n, n0, n1, n2⟩ : ∃ n : Int, 0 < n ∧ (a.natAbs : Int) = n ∧ (a = n ∨ a = -n) := ⟨a.natAbs, by omega, rfl, by omega⟩
  rw [n1] at a3 a4
  rw [m1]
  have q0 : b * b ≤ r * r := Int.mul_le_mul a2 a2 (by omega) p
  have q5 : 0 < n * m := Int.mul_pos n0 m0
  have hmn : D - b * b = 4 * (n * m) := by
    have e1 : 4 * -n * m = -(4 * (n * m)) := by grind
    have e2 : 4 * n * -m = -(4 * (n * m)) := by grind
    have e3 : 4 * -n * -m = 4 * (n * m) := by grind
    have e4 : 4 * n * m = 4 * (n * m) := by grind
    rcases m2 with h2 | h2 <;> rcases n2 with h3 | h3 <;> rw [h2, h3] at h <;> omega
  constructor
  · refine Int.not_le.1 fun hle => ?_
    have q1 : (2 * n) * (2 * m) ≤ (r + b) * (r - b) := Int.mul_le_mul (by omega) hle (by omega) (by omega)
    have q2 : (r + b) * (r - b) = r * r - b * b := by grind
    have q3 : (2 * n) * (2 * m) = 4 * (n * m) := by grind
    omega
  · refine Int.not_lt.1 fun hlt => ?_
    have q1 : (r + 1 - b) * (r + 1 + b) ≤ (2 * n) * (2 * m) := Int.mul_le_mul (by omega) (by omega) (by omega) (by omega)
    have q2 : (r + 1 - b) * (r + 1 + b) = (r + 1) * (r + 1) - b * b := by grind
    have q3 : (2 * n) * (2 * m) = 4 * (n * m) := by grind
    omega

theorem ctop_cyc {D r : Int} {f : T3} (R : RD D r) (h : dis D f) (hc : cyc r f = true) : ctop r f.2.2 = r := by
  have := cyc_c R h hc
  have := cyc_iff.1 hc
  unfold ctop
  rw [if_neg (by omega)]

theorem cyc_nx {D r : Int} {f : T3} (R : RD D r) (h : dis D f) (hc : cyc r f = true) : cyc r (cnx D r f) = true := by
  obtain ⟨a1, a2, a3, a4⟩ := cyc_iff.1 hc
  obtain ⟨b1, b2⟩ := cyc_c R h hc
  obtain ⟨e, h1, h2, h3, h4⟩ := cnx_ex R h
  rw [ctop_cyc R h hc] at h3 h4
  have hcc := (ne_of_dis R h).2
  rw [cyc_iff]
  have hf1 : (cnx D r f).1 = f.2.2 := rfl
  have hf2 : (cnx D r f).2.1 = ccb r f.2.1 f.2.2 := rfl
  rw [hf1, hf2]
  generalize ccb r f.2.1 f.2.2 = x at *
  generalize f.2.1 = b at *
  generalize f.2.2 = c at *
  clear h1 hf1 hf2
  obtain ⟨m, m0, m1, m2⟩ : ∃ m : Int, 0 < m ∧ (c.natAbs : Int) = m ∧ (c = m ∨ c = -m) := ⟨c.natAbs, by omega, rfl, by omega⟩
  rw [m1] at *
  obtain ⟨q, hq⟩ : ∃ q : Int, x + b = 2 * (m * q) := by
    rcases m2 with rfl | rfl
    · exact ⟨e, by grind⟩
    · exact ⟨-e, by grind⟩
  have hq1 : 1 ≤ q := by
    refine Int.not_lt.1 fun hlt => ?_
    have := Int.mul_le_mul_of_nonneg_left (show q ≤ 0 by omega) (show 0 ≤ m by omega)
    rw [Int.mul_zero] at this
    omega
  have hm := Int.mul_le_mul_of_nonneg_left hq1 (show 0 ≤ m by omega)
  rw [Int.mul_one] at hm
  omega

theorem cnx_inj {D r : Int} {f g : T3} (R : RD D r) (hf : dis D f) (hg : dis D g) (cf : cyc r f = true) (cg : cyc r g = true) (he : cnx D r f = cnx D r g) : f = g := by
  obtain ⟨a1, a2, a3, a4⟩ := cyc_iff.1 cf
  obtain ⟨b1, b2⟩ := cyc_c R hf cf
  obtain ⟨k1, k2, k3, k4⟩ := cyc_iff.1 cg
  obtain ⟨l1, l2⟩ := cyc_c R hg cg
  obtain ⟨e, h1, _⟩ := cnx_ex R hf
  obtain ⟨e', h1', _⟩ := cnx_ex R hg
  have hc := (ne_of_dis R hf).2
  rw [h1, h1'] at he
  obtain ⟨a, b, c⟩ := f
  obtain ⟨a', b', c'⟩ := g
  simp only [Prod.mk.injEq] at he
  obtain ⟨e1, e2, _⟩ := he
  dsimp only at *
  subst e1
  unfold dis at hf hg
  dsimp only at hf hg
  have hb : b = b' := by
    obtain ⟨m, m0, m1, m2⟩ : ∃ m : Int, 0 < m ∧ (c.natAbs : Int) = m ∧ (c = m ∨ c = -m) := ⟨c.natAbs, by omega, rfl, by omega⟩
    rw [m1] at *
    obtain ⟨q, hq⟩ : ∃ q : Int, b - b' = 2 * (m * q) := by
      rcases m2 with rfl | rfl
      · exact ⟨e - e', by grind⟩
      · exact ⟨e' - e, by grind⟩
    have q1 : q < 1 := by
      refine Int.not_le.1 fun hlt => ?_
      have := Int.mul_le_mul_of_nonneg_left hlt (show 0 ≤ m by omega)
      rw [Int.mul_one] at this
      omega
    have q2 : -1 < q := by
      refine Int.not_le.1 fun hlt => ?_
      have := Int.mul_le_mul_of_nonneg_left hlt (show 0 ≤ m by omega)
      have e3 : m * -1 = -m := by grind
      omega
    have : q = 0 := by omega
    rw [this, Int.mul_zero] at hq
    omega
  subst hb
  have : (4 * c) * a = (4 * c) * a' := by grind
  rw [Int.eq_of_mul_eq_mul_left (by omega) this]

/-- The orbit. -/
def orb (D r : Int) (f : T3) : Nat → T3
  | 0 => f
  | k + 1 => cnx D r (orb D r f k)
theorem orb_ok {D r : Int} {f : T3} (R : RD D r) (h : dis D f) (hc : cyc r f = true) : ∀ k, dis D (orb D r f k) ∧ cyc r (orb D r f k) = true
  | 0 => ⟨h, hc⟩
  | k + 1 => by
    obtain ⟨h1, h2⟩ := orb_ok R h hc k
    exact ⟨cnx_dis R h1, cyc_nx R h1 h2⟩
theorem orb_back {D r : Int} {f : T3} (R : RD D r) (h : dis D f) (hc : cyc r f = true) : ∀ i k, orb D r f i = orb D r f (i + k) → orb D r f k = f
  | 0, k, e => by rw [Nat.zero_add] at e; exact e.symm
  | i + 1, k, e => by
    rw [show i + 1 + k = (i + k) + 1 by omega] at e
    obtain ⟨a1, a2⟩ := orb_ok R h hc i
    obtain ⟨b1, b2⟩ := orb_ok R h hc (i + k)
    exact orb_back R h hc i k (cnx_inj R a1 b1 a2 b2 e)

/-- A cyclic form's code. -/
def fcode (f : T3) : Nat := (f.1 + 31).toNat * 32 + f.2.1.toNat
theorem orb_per {D r : Int} {f : T3} (R : RD D r) (hr : r ≤ 31) (h : dis D f) (hc : cyc r f = true) : ∃ p, 1 ≤ p ∧ p ≤ 2016 ∧ orb D r f p = f ∧ ∀ k, 1 ≤ k → k < p → orb D r f k ≠ f := by
  have p0 := R.p
  have hb : ∀ i, i ≤ 2016 → fcode (orb D r f i) < 2016 := by
    intro i _
    obtain ⟨h1, h2⟩ := orb_ok R h hc i
    obtain ⟨a1, a2, a3, a4⟩ := cyc_iff.1 h2
    unfold fcode
    omega
  obtain ⟨i, j, h1, h2, h3⟩ := php 2016 (fun i => fcode (orb D r f i)) hb
  have he : orb D r f i = orb D r f (i + (j - i)) := by
    rw [show i + (j - i) = j by omega]
    obtain ⟨x1, x2⟩ := orb_ok R h hc i
    obtain ⟨y1, y2⟩ := orb_ok R h hc j
    obtain ⟨a1, a2, a3, a4⟩ := cyc_iff.1 x2
    obtain ⟨b1, b2, b3, b4⟩ := cyc_iff.1 y2
    have z1 := (ne_of_dis R x1).1
    simp only [fcode] at h3
    generalize orb D r f i = u at *
    generalize orb D r f j = v at *
    obtain ⟨a, b, c⟩ := u
    obtain ⟨a', b', c'⟩ := v
    dsimp only at *
    have e1 : a = a' := by omega
    have e2 : b = b' := by omega
    subst e1 e2
    unfold dis at x1 y1
    dsimp only at x1 y1
    have : (4 * a) * c = (4 * a) * c' := by omega
    rw [Int.eq_of_mul_eq_mul_left (by omega) this]
  have hk := orb_back R h hc i (j - i) he
  have hex : ∃ n, 1 ≤ n ∧ n ≤ 2016 ∧ orb D r f n = f := ⟨j - i, by omega, by omega, hk⟩
  have hmin : ∀ n, (1 ≤ n ∧ n ≤ 2016 ∧ orb D r f n = f) → ∃ p, 1 ≤ p ∧ p ≤ 2016 ∧ orb D r f p = f ∧ ∀ k, 1 ≤ k → k < p → orb D r f k ≠ f := by
    intro n
    induction n using Nat.strongRecOn with
    | ind n ih =>
      rintro ⟨n1, n2, n3⟩
      by_cases hx : ∃ k, 1 ≤ k ∧ k < n ∧ orb D r f k = f
      · obtain ⟨k, k1, k2, k3⟩ := hx
        exact ih k k2 ⟨k1, by omega, k3⟩
      · exact ⟨n, n1, n2, n3, fun k k1 k2 k3 => hx ⟨k, k1, k2, k3⟩⟩
  obtain ⟨n, hn⟩ := hex
  exact hmin n hn

end Go.Proofs.Ytnlabjnjcfapiaa
