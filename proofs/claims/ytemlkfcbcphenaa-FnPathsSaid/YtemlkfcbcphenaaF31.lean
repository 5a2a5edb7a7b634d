/- Nodes: plain laws. -/
import Derived.Test.YtemlkfcbcphenaaF30
namespace Go.Proofs.Ytemlkfcbcphenaa
set_option linter.unusedSimpArgs false
set_option linter.unusedVariables false
open Go.RowKit
set_option maxRecDepth 100000
set_option maxHeartbeats 2000000

def det (p q : P2) : Int := p.1 * q.2 - p.2 * q.1
/-- Its coordinates are numbers. -/
structure Nm2 (p : P2) : Prop where
  x1 : -1000000 ≤ p.1
  x2 : p.1 ≤ 1000000
  y1 : -1000000 ≤ p.2
  y2 : p.2 ≤ 1000000
theorem num2_iff {p : P2} : num2 p = true ↔ Nm2 p := by
  simp only [num2, List.all_cons, List.all_nil, Bool.and_true, Bool.and_eq_true, num_iff]
  constructor
  · rintro ⟨h1, h2⟩; exact ⟨h1.1, h1.2, h2.1, h2.2⟩
  · rintro ⟨a, b, c, d⟩; exact ⟨⟨a, b⟩, ⟨c, d⟩⟩
theorem tn_det {p q : P2} (hp : Nm2 p) (hq : Nm2 q) : tn p q = det p q := by
  obtain ⟨a1, a2, a3, a4⟩ := hp
  obtain ⟨b1, b2, b3, b4⟩ := hq
  have m1 := mul_bd (a := p.1) (b := q.2) (A := 1000000) (B := 1000000) a1 a2 b3 b4
  have m2 := mul_bd (a := p.2) (b := q.1) (A := 1000000) (B := 1000000) a3 a4 b1 b2
  unfold tn det
  rw [wrap_small (n := p.1 * q.2) (by omega) (by omega), wrap_small (n := p.2 * q.1) (by omega) (by omega), wrap_small (by omega) (by omega)]
theorem det_anti (p q : P2) : det q p = -det p q := by unfold det; grind
theorem un_iff {n : Int} : un n = true ↔ n = 1 ∨ n = -1 := by simp [un]
/-- What a region is. -/
structure Rg (p : P2) : Prop where
  nm : Nm2 p
  g : Int.gcd p.1 p.2 = 1
  s : 0 < p.1 ∨ (p.1 = 0 ∧ p.2 = 1)
theorem rgG_iff {p : P2} : rgG p = true ↔ Rg p := by
  simp only [rgG, Bool.and_eq_true, Bool.or_eq_true, decide_eq_true_eq, num_iff]
  constructor
  · rintro ⟨⟨⟨h1, h2⟩, h3⟩, h4⟩; exact ⟨⟨h1.1, h1.2, h2.1, h2.2⟩, by omega, h4⟩
  · rintro ⟨⟨a, b, c, d⟩, g, s⟩; exact ⟨⟨⟨⟨a, b⟩, ⟨c, d⟩⟩, by omega⟩, s⟩
/-- A node of which one region is set forward. -/
structure SG (s : N6) : Prop where
  ro : Rg s.1
  rp : Rg s.2.1
  rq : Rg s.2.2
  lt : ltP s.2.1 s.2.2 = true
  dpq : det s.2.1 s.2.2 = 1 ∨ det s.2.1 s.2.2 = -1
  dpo : det s.2.1 s.1 = 1 ∨ det s.2.1 s.1 = -1
  dqo : det s.2.2 s.1 = 1 ∨ det s.2.2 s.1 = -1
structure NG (n : N6) : Prop where
  ru : Rg n.1
  rv : Rg n.2.1
  rw : Rg n.2.2
  uv : ltP n.1 n.2.1 = true
  vw : ltP n.2.1 n.2.2 = true
  duv : det n.1 n.2.1 = 1 ∨ det n.1 n.2.1 = -1
  dvw : det n.2.1 n.2.2 = 1 ∨ det n.2.1 n.2.2 = -1
  duw : det n.1 n.2.2 = 1 ∨ det n.1 n.2.2 = -1
theorem ndG_iff {n : N6} : ndG n = true ↔ NG n := by
  simp only [ndG, Bool.and_eq_true, rgG_iff, un_iff]
  constructor
  · rintro ⟨⟨⟨⟨⟨⟨⟨h1, h2⟩, h3⟩, h4⟩, h5⟩, h6⟩, h7⟩, h8⟩
    rw [tn_det h1.nm h2.nm] at h6
    rw [tn_det h2.nm h3.nm] at h7
    rw [tn_det h1.nm h3.nm] at h8
    exact ⟨h1, h2, h3, h4, h5, h6, h7, h8⟩
  · rintro ⟨h1, h2, h3, h4, h5, h6, h7, h8⟩
    rw [tn_det h1.nm h2.nm, tn_det h2.nm h3.nm, tn_det h1.nm h3.nm]
    exact ⟨⟨⟨⟨⟨⟨⟨h1, h2⟩, h3⟩, h4⟩, h5⟩, h6⟩, h7⟩, h8⟩
theorem ltP_trans {p q r : P2} (h1 : ltP p q = true) (h2 : ltP q r = true) : ltP p r = true := by
  simp only [ltP, Bool.or_eq_true, Bool.and_eq_true, decide_eq_true_eq] at *; omega
theorem spl_SG {n : N6} (i : Int) (h : NG n) : SG (spl n i) := by
  obtain ⟨h1, h2, h3, h4, h5, h6, h7, h8⟩ := h
  have a1 := det_anti n.1 n.2.1
  have a2 := det_anti n.2.1 n.2.2
  have a3 := det_anti n.1 n.2.2
  unfold spl
  split
  · exact ⟨h1, h2, h3, h5, h7, by dsimp only; omega, by dsimp only; omega⟩
  · split
    · exact ⟨h2, h1, h3, ltP_trans h4 h5, h8, by dsimp only; omega, by dsimp only; omega⟩
    · exact ⟨h3, h1, h2, h4, h6, by dsimp only; omega, by dsimp only; omega⟩
theorem lt_tri (p q : P2) : ltP p q = true ∨ p = q ∨ ltP q p = true := by
  simp only [ltP, Bool.or_eq_true, Bool.and_eq_true, decide_eq_true_eq, Prod.ext_iff]; omega
theorem det_self (p : P2) : det p p = 0 := by unfold det; grind
theorem ltP_irr {p q : P2} (h : ltP p q = true) : ltP q p = false := by
  rw [Bool.eq_false_iff]; intro h'
  simp only [ltP, Bool.or_eq_true, Bool.and_eq_true, decide_eq_true_eq] at *; omega
/-- Three regions make a node. -/
theorem mkN_NG {p q r : P2} (hp : Rg p) (hq : Rg q) (hr : Rg r) (hl : ltP p q = true) (d1 : det p q = 1 ∨ det p q = -1) (d2 : det p r = 1 ∨ det p r = -1) (d3 : det q r = 1 ∨ det q r = -1) : NG (mkN p q r) := by
  have a2 := det_anti p r
  have a3 := det_anti q r
  have n1 : p ≠ r := fun e => by subst e; rw [det_self] at d2; omega
  have n2 : q ≠ r := fun e => by subst e; rw [det_self] at d3; omega
  unfold mkN
  split
  · rename_i h
    split
    · exact ⟨hp, hq, hr, hl, by assumption, d1, d3, d2⟩
    · rename_i h'
      have : ltP r q = true := by
        rcases lt_tri q r with e | e | e
        · exact absurd e h'
        · exact absurd e n2
        · exact e
      exact ⟨hp, hr, hq, h, this, d2, by dsimp only; omega, d1⟩
  · rename_i h
    have : ltP r p = true := by
      rcases lt_tri p r with e | e | e
      · exact absurd e h
      · exact absurd e n1
      · exact e
    exact ⟨hr, hp, hq, this, hl, by dsimp only; omega, d1, by dsimp only; omega⟩
/-- r is among the regions that are made. -/
theorem mkN_has {p q r : P2} (h : NG (mkN p q r)) : Rg r := by
  unfold mkN at h
  split at h
  · split at h
    · exact h.rw
    · exact h.rv
  · exact h.ru
theorem rgN_or {x y : Int} (h1 : -9000000000000000000 ≤ x) (h2 : x ≤ 9000000000000000000) (h3 : -9000000000000000000 ≤ y) (h4 : y ≤ 9000000000000000000) :
    (rgN x y = (x, y) ∨ rgN x y = (-x, -y)) ∧ (0 < (rgN x y).1 ∨ ((rgN x y).1 = 0 ∧ 0 ≤ (rgN x y).2)) := by
  unfold rgN
  split
  · rw [wrap_small (n := -x) (by omega) (by omega), wrap_small (n := -y) (by omega) (by omega)]
    exact ⟨.inr rfl, by dsimp only; omega⟩
  · exact ⟨.inl rfl, by dsimp only; omega⟩
theorem gcd_of_det {p r : P2} (h : det p r = 1 ∨ det p r = -1) : Int.gcd r.1 r.2 = 1 := by
  have h1 : ((Int.gcd r.1 r.2 : Nat) : Int) ∣ r.1 := Int.gcd_dvd_left ..
  have h2 : ((Int.gcd r.1 r.2 : Nat) : Int) ∣ r.2 := Int.gcd_dvd_right ..
  have h3 : ((Int.gcd r.1 r.2 : Nat) : Int) ∣ det p r := Int.dvd_sub (Int.dvd_trans h2 ⟨p.1, by rw [Int.mul_comm]⟩) (Int.dvd_trans h1 ⟨p.2, by rw [Int.mul_comm]⟩)
  have h4 : ((Int.gcd r.1 r.2 : Nat) : Int) ∣ 1 := by
    rcases h with h | h
    · rwa [h] at h3
    · rw [h] at h3; exact (Int.dvd_neg).1 h3
  have := Int.eq_one_of_dvd_one (by omega) h4
  omega
theorem unit_of {a b : Int} (h : a * b = 1 ∨ a * b = -1) (hb : 0 ≤ b) : b = 1 := by
  have : b ∣ 1 := by
    rcases h with h | h
    · exact ⟨a, by rw [Int.mul_comm]; exact h.symm⟩
    · exact ⟨-a, by rw [Int.mul_comm, Int.neg_mul]; omega⟩
  exact Int.eq_one_of_dvd_one hb this
/-- The new region: p + q or p - q. -/
structure NR (s : N6) (r : P2) : Prop where
  e : ∃ t : Int, (t = 1 ∨ t = -1) ∧ ∃ z : Int, (z = 1 ∨ z = -1) ∧ r = (z * (s.2.1.1 + t * s.2.2.1), z * (s.2.1.2 + t * s.2.2.2)) ∧ ∃ z' : Int, (z' = 1 ∨ z' = -1) ∧ s.1 = (z' * (s.2.1.1 - t * s.2.2.1), z' * (s.2.1.2 - t * s.2.2.2))
  sg : 0 < r.1 ∨ (r.1 = 0 ∧ 0 ≤ r.2)

theorem pm_mul {a b : Int} (h1 : a = 1 ∨ a = -1) (h2 : b = 1 ∨ b = -1) : a * b = 1 ∨ a * b = -1 := by
  rcases h1 with rfl | rfl <;> rcases h2 with rfl | rfl <;> simp
theorem cramer (p q o : P2) : det p q * o.1 = det p o * q.1 - det q o * p.1 ∧ det p q * o.2 = det p o * q.2 - det q o * p.2 := by
  unfold det
  constructor <;> grind
theorem stR_NR {s : N6} (S : SG s) : NR s (stR s) := by
  obtain ⟨o, p, q⟩ := s
  obtain ⟨ro, rp, rq, lt, dpq, dpo, dqo⟩ := S
  dsimp only at ro rp rq lt dpq dpo dqo
  have b1 := rp.nm
  have b2 := rq.nm
  have hx := rgN_or (x := p.1 + q.1) (y := p.2 + q.2) (by have := b1.x1; have := b2.x1; omega) (by have := b1.x2; have := b2.x2; omega) (by have := b1.y1; have := b2.y1; omega) (by have := b1.y2; have := b2.y2; omega)
  have hy := rgN_or (x := p.1 - q.1) (y := p.2 - q.2) (by have := b1.x1; have := b2.x2; omega) (by have := b1.x2; have := b2.x1; omega) (by have := b1.y1; have := b2.y2; omega) (by have := b1.y2; have := b2.y1; omega)
  have w1 : wrap64 (p.1 + q.1) = p.1 + q.1 := wrap_small (by have := b1.x1; have := b2.x1; omega) (by have := b1.x2; have := b2.x2; omega)
  have w2 : wrap64 (p.2 + q.2) = p.2 + q.2 := wrap_small (by have := b1.y1; have := b2.y1; omega) (by have := b1.y2; have := b2.y2; omega)
  have w3 : wrap64 (p.1 - q.1) = p.1 - q.1 := wrap_small (by have := b1.x1; have := b2.x2; omega) (by have := b1.x2; have := b2.x1; omega)
  have w4 : wrap64 (p.2 - q.2) = p.2 - q.2 := wrap_small (by have := b1.y1; have := b2.y2; omega) (by have := b1.y2; have := b2.y1; omega)
  obtain ⟨c1, c2⟩ := cramer p q o
  have dp : det p (p.1 + q.1, p.2 + q.2) = det p q := by unfold det; grind
  have dq : det q (p.1 + q.1, p.2 + q.2) = -det p q := by unfold det; grind
  have hpos : stR (o, p, q) = if rgN (p.1 + q.1) (p.2 + q.2) = o then rgN (p.1 - q.1) (p.2 - q.2) else rgN (p.1 + q.1) (p.2 + q.2) := by
    unfold stR; dsimp only; rw [w1, w2, w3, w4]
  have so := ro.s
  -- o = a p + b q
  have key : (∃ a : Int, (a = 1 ∨ a = -1) ∧ o.1 = a * (p.1 + q.1) ∧ o.2 = a * (p.2 + q.2)) ∨ (∃ a : Int, (a = 1 ∨ a = -1) ∧ o.1 = a * (p.1 - q.1) ∧ o.2 = a * (p.2 - q.2)) := by
    rcases dpq with e | e <;> rcases dpo with f | f <;> rcases dqo with g | g <;> rw [e, f, g] at c1 c2
    · right; exact ⟨-1, .inr rfl, by omega, by omega⟩
    · left; exact ⟨1, .inl rfl, by omega, by omega⟩
    · left; exact ⟨-1, .inr rfl, by omega, by omega⟩
    · right; exact ⟨1, .inl rfl, by omega, by omega⟩
    · right; exact ⟨1, .inl rfl, by omega, by omega⟩
    · left; exact ⟨-1, .inr rfl, by omega, by omega⟩
    · left; exact ⟨1, .inl rfl, by omega, by omega⟩
    · right; exact ⟨-1, .inr rfl, by omega, by omega⟩
  rcases key with ⟨a, ha, o1, o2⟩ | ⟨a, ha, o1, o2⟩
  · have ho : rgN (p.1 + q.1) (p.2 + q.2) = o := by
      obtain ⟨h1, h2⟩ := hx
      rcases h1 with h1 | h1 <;> rw [h1] at h2 ⊢ <;> dsimp only at h2 <;> rcases ha with rfl | rfl <;> apply Prod.ext <;> dsimp only <;> omega
    rw [if_pos ho] at hpos
    rw [hpos]
    obtain ⟨h1, h2⟩ := hy
    refine ⟨⟨-1, .inr rfl, ?_⟩, h2⟩
    rcases h1 with h1 | h1
    · exact ⟨1, .inl rfl, by rw [h1]; apply Prod.ext <;> dsimp only <;> omega, a, ha, by apply Prod.ext <;> dsimp only <;> rcases ha with rfl | rfl <;> omega⟩
    · exact ⟨-1, .inr rfl, by rw [h1]; apply Prod.ext <;> dsimp only <;> omega, a, ha, by apply Prod.ext <;> dsimp only <;> rcases ha with rfl | rfl <;> omega⟩
  · have ho : ¬ rgN (p.1 + q.1) (p.2 + q.2) = o := by
      intro he
      have eo : o = (a * (p.1 - q.1), a * (p.2 - q.2)) := Prod.ext o1 o2
      have f1 : det p o = -a * det p q := by rw [eo]; unfold det; grind
      have f2 : det q o = -a * det p q := by rw [eo]; unfold det; grind
      rcases hx.1 with h1 | h1
      · rw [h1] at he
        rw [← he, dp] at f1
        rw [← he, dq] at f2
        rcases ha with rfl | rfl <;> omega
      · rw [h1] at he
        have g1 : det p (-(p.1 + q.1), -(p.2 + q.2)) = -det p q := by unfold det; grind
        have g2 : det q (-(p.1 + q.1), -(p.2 + q.2)) = det p q := by unfold det; grind
        rw [← he, g1] at f1
        rw [← he, g2] at f2
        rcases ha with rfl | rfl <;> omega
    rw [if_neg ho] at hpos
    rw [hpos]
    obtain ⟨h1, h2⟩ := hx
    refine ⟨⟨1, .inl rfl, ?_⟩, h2⟩
    rcases h1 with h1 | h1
    · exact ⟨1, .inl rfl, by rw [h1]; apply Prod.ext <;> dsimp only <;> omega, a, ha, by apply Prod.ext <;> dsimp only <;> rcases ha with rfl | rfl <;> omega⟩
    · exact ⟨-1, .inr rfl, by rw [h1]; apply Prod.ext <;> dsimp only <;> omega, a, ha, by apply Prod.ext <;> dsimp only <;> rcases ha with rfl | rfl <;> omega⟩

/-- A step leads to a node, if the coordinates are numbers. -/
theorem NR_step {s : N6} {r : P2} (S : SG s) (R : NR s r) (hn : Nm2 r) : NG (mkN s.2.1 s.2.2 r) := by
  obtain ⟨o, p, q⟩ := s
  obtain ⟨ro, rp, rq, lt, dpq, dpo, dqo⟩ := S
  obtain ⟨⟨t, ht, z, hz, hr, _⟩, hs⟩ := R
  dsimp only at *
  have d1 : det p r = z * t * det p q := by rw [hr]; unfold det; grind
  have d2 : det q r = -z * det p q := by rw [hr]; unfold det; grind
  have e1 : det p r = 1 ∨ det p r = -1 := by rw [d1]; exact pm_mul (pm_mul hz ht) dpq
  have e2 : det q r = 1 ∨ det q r = -1 := by rw [d2]; exact pm_mul (by omega) dpq
  have hg : Rg r := by
    refine ⟨hn, gcd_of_det e1, ?_⟩
    rcases hs with h | ⟨h, h'⟩
    · exact .inl h
    · refine .inr ⟨h, ?_⟩
      have : p.1 * r.2 = 1 ∨ p.1 * r.2 = -1 := by
        unfold det at e1; rw [h] at e1; simpa using e1
      exact unit_of this h'
  exact mkN_NG rp rq hg lt dpq e1 e2
theorem step_NG {n : N6} {i : Int} (h : NG n) (hn : Nm2 (stR (spl n i))) : NG (nstp n i) := NR_step (spl_SG i h) (stR_NR (spl_SG i h)) hn
theorem step_good {n : N6} {i : Int} (h : NG n) : ndG (nstp n i) = num2 (stR (spl n i)) := by
  rw [Bool.eq_iff_iff, ndG_iff, num2_iff]
  exact ⟨fun hg => (mkN_has hg).nm, step_NG h⟩

theorem sq0 (a : Int) : 0 ≤ a * a := by
  rcases Int.le_total 0 a with h | h
  · exact Int.mul_nonneg h h
  · have := Int.mul_nonneg (show 0 ≤ -a by omega) (show 0 ≤ -a by omega)
    rwa [Int.neg_mul_neg] at this
theorem sqpos {a : Int} (h : a ≠ 0) : 0 < a * a := by
  rcases Int.lt_trichotomy a 0 with h' | h' | h'
  · have := Int.mul_pos (show 0 < -a by omega) (show 0 < -a by omega)
    rwa [Int.neg_mul_neg] at this
  · exact absurd h' h
  · exact Int.mul_pos h' h'

/-! values of a definite form -/
def fo (a b c : Int) (p : P2) : Int := a * p.1 * p.1 + b * p.1 * p.2 + c * p.2 * p.2
theorem fo_pos {a b c : Int} (ha : 0 < a) (hd : b * b - 4 * a * c < 0) {p : P2} (hp : p.1 ≠ 0 ∨ p.2 ≠ 0) : 1 ≤ fo a b c p := by
  have h4 : 4 * a * fo a b c p = (2 * a * p.1 + b * p.2) * (2 * a * p.1 + b * p.2) + (4 * a * c - b * b) * (p.2 * p.2) := by unfold fo; grind
  have s1 := sq0 (2 * a * p.1 + b * p.2)
  have s2 := sq0 p.2
  have hpos : 0 < 4 * a * fo a b c p := by
    by_cases h2 : p.2 = 0
    · have h1 : p.1 ≠ 0 := by rcases hp with h | h; exact h; exact absurd h2 h
      rw [h4, h2]
      have : 2 * a * p.1 + b * 0 ≠ 0 := by
        rw [Int.mul_zero, Int.add_zero]
        intro h
        rcases Int.mul_eq_zero.1 h with h | h <;> omega
      have := sqpos this
      simp only [Int.mul_zero, Int.add_zero] at *
      omega
    · have := Int.mul_pos (show 0 < 4 * a * c - b * b by omega) (sqpos h2)
      omega
  rcases Int.lt_or_le 0 (fo a b c p) with h | h
  · omega
  · have := Int.mul_nonneg (show 0 ≤ 4 * a by omega) (show 0 ≤ -fo a b c p by omega)
    rw [Int.mul_neg] at this
    omega
theorem sq_le_bd {u : Int} (h : u * u ≤ 1000000) : -1000 ≤ u ∧ u ≤ 1000 := by
  constructor
  · rcases Int.lt_or_le u (-1000) with h1 | h1
    · have := Int.mul_le_mul (show 1001 ≤ -u by omega) (show 1001 ≤ -u by omega) (by omega) (by omega)
      rw [Int.neg_mul_neg] at this; omega
    · exact h1
  · rcases Int.lt_or_le 1000 u with h1 | h1
    · have := Int.mul_le_mul (show 1001 ≤ u by omega) (show 1001 ≤ u by omega) (by omega) (by omega); omega
    · exact h1
/-- Two coordinates of one sign, if p and q' are at an obtuse angle: they are small. -/
theorem obtuse {u v m F G K : Int} (hK : K = u * u * G - u * v * m + v * v * F) (hK2 : K ≤ 1000000) (hF : 1 ≤ F) (hG : 1 ≤ G) (hm : m < 0) (hu1 : -1000000 ≤ u) (hu2 : u ≤ 1000000) (hv1 : -1000000 ≤ v) (hv2 : v ≤ 1000000) : -1000000 ≤ u + v ∧ u + v ≤ 1000000 := by
  rcases Int.lt_or_le 0 (u * v) with h | h
  · have a1 := Int.mul_le_mul_of_nonneg_left hG (sq0 u)
    have a2 := Int.mul_le_mul_of_nonneg_left hF (sq0 v)
    have a3 := Int.mul_pos h (show 0 < -m by omega)
    have s1 := sq0 u
    have s2 := sq0 v
    rw [Int.mul_neg] at a3
    have b1 := sq_le_bd (u := u) (by omega)
    have b2 := sq_le_bd (u := v) (by omega)
    omega
  · rcases Int.lt_or_le 0 u with hu | hu
    · have : v ≤ 0 := by
        rcases Int.lt_or_le 0 v with hv | hv
        · have := Int.mul_pos hu hv; omega
        · exact hv
      omega
    · rcases Int.lt_or_le u 0 with hu' | hu'
      · have : 0 ≤ v := by
          rcases Int.lt_or_le v 0 with hv | hv
          · have := Int.mul_pos (show 0 < -u by omega) (show 0 < -v by omega)
            rw [Int.neg_mul_neg] at this; omega
          · exact hv
        omega
      · omega
/-- On the way down all coordinates are numbers. -/
theorem fall_num {a b c : Int} {s : N6} {r : P2} (ha : 0 < a) (ha2 : a ≤ 1000000) (hc2 : c ≤ 1000000) (hd : b * b - 4 * a * c < 0) (S : SG s) (R : NR s r) (hf : fo a b c s.1 > fo a b c s.2.1 + fo a b c s.2.2) : Nm2 r := by
  obtain ⟨o, p, q⟩ := s
  obtain ⟨ro, rp, rq, lt, dpq, dpo, dqo⟩ := S
  obtain ⟨⟨t, ht, z, hz, hr, z', hz', ho⟩, _⟩ := R
  dsimp only at *
  have hp1 : 1 ≤ fo a b c p := fo_pos ha hd (by have := rp.s; omega)
  have hq1 : 1 ≤ fo a b c q := fo_pos ha hd (by have := rq.s; omega)
  have zz : z' * z' = 1 := by rcases hz' with rfl | rfl <;> rfl
  have tt : t * t = 1 := by rcases ht with rfl | rfl <;> rfl
  have dd : det p q * det p q = 1 := by rcases dpq with e | e <;> rw [e] <;> rfl
  -- the polar value of p and t q is negative
  have hm : fo a b c o = fo a b c p + fo a b c q - t * (2 * a * p.1 * q.1 + b * (p.1 * q.2 + p.2 * q.1) + 2 * c * p.2 * q.2) := by
    have : fo a b c o = z' * z' * (fo a b c p + t * t * fo a b c q - t * (2 * a * p.1 * q.1 + b * (p.1 * q.2 + p.2 * q.1) + 2 * c * p.2 * q.2)) := by rw [ho]; unfold fo; grind
    rw [this, zz, tt, Int.one_mul, Int.one_mul]
  have hm2 : t * (2 * a * p.1 * q.1 + b * (p.1 * q.2 + p.2 * q.1) + 2 * c * p.2 * q.2) < 0 := by omega
  have kc : c = p.1 * p.1 * fo a b c q - p.1 * (t * q.1) * (t * (2 * a * p.1 * q.1 + b * (p.1 * q.2 + p.2 * q.1) + 2 * c * p.2 * q.2)) + (t * q.1) * (t * q.1) * fo a b c p := by
    have : p.1 * p.1 * fo a b c q - p.1 * (t * q.1) * (t * (2 * a * p.1 * q.1 + b * (p.1 * q.2 + p.2 * q.1) + 2 * c * p.2 * q.2)) + (t * q.1) * (t * q.1) * fo a b c p = p.1 * p.1 * fo a b c q + t * t * (- p.1 * q.1 * (2 * a * p.1 * q.1 + b * (p.1 * q.2 + p.2 * q.1) + 2 * c * p.2 * q.2) + q.1 * q.1 * fo a b c p) := by grind
    rw [this, tt, Int.one_mul]
    have : p.1 * p.1 * fo a b c q + (- p.1 * q.1 * (2 * a * p.1 * q.1 + b * (p.1 * q.2 + p.2 * q.1) + 2 * c * p.2 * q.2) + q.1 * q.1 * fo a b c p) = c * (det p q * det p q) := by unfold fo det; grind
    rw [this, dd, Int.mul_one]
  have ka : a = p.2 * p.2 * fo a b c q - p.2 * (t * q.2) * (t * (2 * a * p.1 * q.1 + b * (p.1 * q.2 + p.2 * q.1) + 2 * c * p.2 * q.2)) + (t * q.2) * (t * q.2) * fo a b c p := by
    have : p.2 * p.2 * fo a b c q - p.2 * (t * q.2) * (t * (2 * a * p.1 * q.1 + b * (p.1 * q.2 + p.2 * q.1) + 2 * c * p.2 * q.2)) + (t * q.2) * (t * q.2) * fo a b c p = p.2 * p.2 * fo a b c q + t * t * (- p.2 * q.2 * (2 * a * p.1 * q.1 + b * (p.1 * q.2 + p.2 * q.1) + 2 * c * p.2 * q.2) + q.2 * q.2 * fo a b c p) := by grind
    rw [this, tt, Int.one_mul]
    have : p.2 * p.2 * fo a b c q + (- p.2 * q.2 * (2 * a * p.1 * q.1 + b * (p.1 * q.2 + p.2 * q.1) + 2 * c * p.2 * q.2) + q.2 * q.2 * fo a b c p) = a * (det p q * det p q) := by unfold fo det; grind
    rw [this, dd, Int.mul_one]
  have b1 := rp.nm
  have b2 := rq.nm
  have t1 : -1000000 ≤ t * q.1 ∧ t * q.1 ≤ 1000000 := by have := b2.x1; have := b2.x2; rcases ht with rfl | rfl <;> omega
  have t2 : -1000000 ≤ t * q.2 ∧ t * q.2 ≤ 1000000 := by have := b2.y1; have := b2.y2; rcases ht with rfl | rfl <;> omega
  have r1 := obtuse kc hc2 hp1 hq1 hm2 b1.x1 b1.x2 t1.1 t1.2
  have r2 := obtuse ka ha2 hp1 hq1 hm2 b1.y1 b1.y2 t2.1 t2.2
  rw [hr]
  rcases hz with rfl | rfl
  · exact ⟨by dsimp only; omega, by dsimp only; omega, by dsimp only; omega, by dsimp only; omega⟩
  · exact ⟨by dsimp only; omega, by dsimp only; omega, by dsimp only; omega, by dsimp only; omega⟩
end Go.Proofs.Ytemlkfcbcphenaa
