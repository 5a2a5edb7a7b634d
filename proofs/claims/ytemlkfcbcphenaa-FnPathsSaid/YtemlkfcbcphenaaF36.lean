/- Paths: plain laws. -/
import Derived.Test.YtemlkfcbcphenaaF31
namespace Go.Proofs.Ytemlkfcbcphenaa
set_option linter.unusedSimpArgs false
set_option linter.unusedVariables false
open Go.RowKit
set_option maxRecDepth 100000
set_option maxHeartbeats 2000000

/-- Coordinates up to 100. -/
structure Sm (p : P2) : Prop where
  x1 : -100 ≤ p.1
  x2 : p.1 ≤ 100
  y1 : -100 ≤ p.2
  y2 : p.2 ≤ 100
theorem Sm.nm {p : P2} (h : Sm p) : Nm2 p := ⟨by have := h.x1; omega, by have := h.x2; omega, by have := h.y1; omega, by have := h.y2; omega⟩
/-- t is on the other side of the edge of p and q than o. -/
def bhS (t : P2) (s : N6) : Prop := (det t s.2.1).sign * (det t s.2.2).sign = -(det s.1 s.2.1 * det s.1 s.2.2).sign
instance (t : P2) (s : N6) : Decidable (bhS t s) := by unfold bhS; infer_instance
def tow (t : P2) (n : N6) : Int := if t = n.1 ∨ t = n.2.1 ∨ t = n.2.2 then 0 else if bhS t (spl n 1) then 1 else if bhS t (spl n 2) then 2 else 3
theorem sgn_or {x : Int} (h : x ≠ 0) : x.sign = 1 ∨ x.sign = -1 := by
  rcases Int.lt_trichotomy x 0 with h' | h' | h'
  · exact .inr (Int.sign_eq_neg_one_of_neg h')
  · exact absurd h' h
  · exact .inl (Int.sign_eq_one_of_pos h')
theorem sgn_iff {x : Int} (h : x ≠ 0) : (x.sign = 1 ↔ 0 < x) ∧ (x.sign = -1 ↔ x < 0) := by
  rcases Int.lt_trichotomy x 0 with h' | h' | h'
  · rw [Int.sign_eq_neg_one_of_neg h']; omega
  · exact absurd h' h
  · rw [Int.sign_eq_one_of_pos h']; omega
theorem dvd_cop {a b c : Int} (h : a ∣ b * c) (g : Int.gcd a b = 1) : a ∣ c := by
  have h1 : a.natAbs ∣ b.natAbs * c.natAbs := by rw [← Int.natAbs_mul]; exact Int.natAbs_dvd_natAbs.2 h
  have h2 : Nat.Coprime a.natAbs b.natAbs := by rw [Nat.Coprime, ← Int.gcd_eq_natAbs_gcd_natAbs]; exact g
  exact Int.natAbs_dvd_natAbs.1 (h2.dvd_of_dvd_mul_left h1)
/-- Two regions with determinant 0 are the same. -/
theorem det_zero {p q : P2} (hp : Rg p) (hq : Rg q) (h : det p q = 0) : p = q := by
  have e : p.1 * q.2 = p.2 * q.1 := by unfold det at h; omega
  have d1 : p.1 ∣ q.1 := by
    have : p.1 ∣ p.2 * q.1 := ⟨q.2, e.symm⟩
    exact dvd_cop this hp.g
  have d2 : q.1 ∣ p.1 := by
    have : q.1 ∣ q.2 * p.1 := ⟨p.2, by rw [Int.mul_comm, e, Int.mul_comm]⟩
    exact dvd_cop this hq.g
  have e1 : p.1 = q.1 := Int.dvd_antisymm (by have := hp.s; omega) (by have := hq.s; omega) d1 d2
  rcases hp.s with h1 | ⟨h1, h1'⟩
  · have : p.2 = q.2 := by
      rw [e1, Int.mul_comm] at e
      exact (Int.eq_of_mul_eq_mul_right (by omega) e).symm
    exact Prod.ext e1 this
  · rcases hq.s with h2 | ⟨h2, h2'⟩
    · omega
    · exact Prod.ext e1 (by omega)

/-- The sum of the determinants. -/
def dM (t : P2) (n : N6) : Nat := (det t n.1).natAbs + (det t n.2.1).natAbs + (det t n.2.2).natAbs
theorem dM_spl (t : P2) (n : N6) (i : Int) : dM t (spl n i) = dM t n := by
  unfold spl dM; split
  · rfl
  · split <;> dsimp only <;> omega
theorem dM_mk (t p q r : P2) : dM t (mkN p q r) = (det t p).natAbs + (det t q).natAbs + (det t r).natAbs := by
  unfold mkN dM; split
  · split <;> dsimp only <;> omega
  · dsimp only; omega
/-- A step over an edge behind which t lies. -/
theorem beh_step {t : P2} {s : N6} {r : P2} (S : SG s) (R : NR s r) (ht : Rg t) (hp : t ≠ s.2.1) (hq : t ≠ s.2.2) (hb : bhS t s) (h1 : Sm t) (h2 : Sm s.2.1) (h3 : Sm s.2.2) :
    Sm r ∧ (det t s.2.1).natAbs + (det t s.2.2).natAbs + (det t r).natAbs < dM t s := by
  obtain ⟨o, p, q⟩ := s
  obtain ⟨ro, rp, rq, lt, dpq, dpo, dqo⟩ := S
  obtain ⟨⟨τ, hτ, z, hz, hr, z', hz', ho⟩, _⟩ := R
  unfold bhS at hb
  unfold dM
  dsimp only at *
  have np : det t p ≠ 0 := fun h => hp (det_zero ht rp h)
  have nq : det t q ≠ 0 := fun h => hq (det_zero ht rq h)
  -- the determinants of o and r
  have e1 : det t o = z' * (det t p - τ * det t q) := by rw [ho]; unfold det; grind
  have e2 : det t r = z * (det t p + τ * det t q) := by rw [hr]; unfold det; grind
  have e3 : det o p * det o q = τ * (z' * z') * (det p q * det p q) := by rw [ho]; unfold det; grind
  have zz : z' * z' = 1 := by rcases hz' with rfl | rfl <;> rfl
  have dd : det p q * det p q = 1 := by rcases dpq with e | e <;> rw [e] <;> rfl
  rw [e3, zz, dd, Int.mul_one, Int.mul_one] at hb
  have c1 := cramer p q t
  rw [det_anti t p, det_anti t q] at c1
  generalize det t p = a at *
  generalize det t q = b at *
  have sa := sgn_iff np
  have sb := sgn_iff nq
  have hab : (τ = 1 ∧ (0 < a ∧ b < 0 ∨ a < 0 ∧ 0 < b)) ∨ (τ = -1 ∧ (0 < a ∧ 0 < b ∨ a < 0 ∧ b < 0)) := by
    rcases sgn_or np with e | e <;> rcases sgn_or nq with f | f <;> rw [e, f] at hb <;> rcases hτ with rfl | rfl <;> simp at hb <;> omega
  constructor
  · -- t = ±(b p - a q)
    have bd : ∀ (u v w : Int), det p q * w = -a * v - -b * u → -100 ≤ u → u ≤ 100 → -100 ≤ v → v ≤ 100 → -100 ≤ w → w ≤ 100 → -100 ≤ z * (u + τ * v) ∧ z * (u + τ * v) ≤ 100 := fun u v w hw u1 u2 v1 v2 w1 w2 => by
      have hw2 : -100 ≤ b * u - a * v ∧ b * u - a * v ≤ 100 := by
        have : det p q * w = b * u - a * v := by rw [hw]; grind
        rw [← this]
        rcases dpq with e | e <;> rw [e] <;> omega
      have pos : ∀ x y : Int, 1 ≤ x → 0 ≤ y → y ≤ x * y := fun x y hx hy => by
        have := Int.mul_le_mul_of_nonneg_right hx hy; omega
      have neg : ∀ x y : Int, 1 ≤ x → y ≤ 0 → x * y ≤ y := fun x y hx hy => by
        have h := Int.mul_le_mul_of_nonneg_right hx (show 0 ≤ -y by omega)
        have e := Int.mul_neg x y
        omega
      have key : -100 ≤ u + τ * v ∧ u + τ * v ≤ 100 := by
        have nb : -b * u = -(b * u) := Int.neg_mul ..
        have na : -a * v = -(a * v) := Int.neg_mul ..
        rcases hab with ⟨rfl, ⟨h1, h2⟩ | ⟨h1, h2⟩⟩ | ⟨rfl, ⟨h1, h2⟩ | ⟨h1, h2⟩⟩
        · -- b < 0 < a: b u - a v = -((-b) u + a v)
          rcases Int.le_total 0 u with hu | hu <;> rcases Int.le_total 0 v with hv | hv
          · have := pos (-b) u (by omega) hu; have := pos a v (by omega) hv; omega
          · omega
          · omega
          · have := neg (-b) u (by omega) hu; have := neg a v (by omega) hv; omega
        · rcases Int.le_total 0 u with hu | hu <;> rcases Int.le_total 0 v with hv | hv
          · have := pos b u (by omega) hu; have := pos (-a) v (by omega) hv; omega
          · omega
          · omega
          · have := neg b u (by omega) hu; have := neg (-a) v (by omega) hv; omega
        · rcases Int.le_total 0 u with hu | hu <;> rcases Int.le_total 0 v with hv | hv
          · omega
          · have := pos b u (by omega) hu; have := neg a v (by omega) hv; omega
          · have := neg b u (by omega) hu; have := pos a v (by omega) hv; omega
          · omega
        · rcases Int.le_total 0 u with hu | hu <;> rcases Int.le_total 0 v with hv | hv
          · omega
          · have := pos (-b) u (by omega) hu; have := neg (-a) v (by omega) hv; omega
          · have := neg (-b) u (by omega) hu; have := pos (-a) v (by omega) hv; omega
          · omega
      rcases hz with rfl | rfl <;> omega
    have r1 := bd p.1 q.1 t.1 c1.1 h2.x1 h2.x2 h3.x1 h3.x2 h1.x1 h1.x2
    have r2 := bd p.2 q.2 t.2 c1.2 h2.y1 h2.y2 h3.y1 h3.y2 h1.y1 h1.y2
    rw [hr]
    exact ⟨r1.1, r1.2, r2.1, r2.2⟩
  · rw [e1, e2]
    rcases hab with ⟨rfl, h⟩ | ⟨rfl, h⟩ <;> rcases hz with rfl | rfl <;> rcases hz' with rfl | rfl <;> omega

/-- What is kept on the way to t. -/
structure PV (t : P2) (n : N6) : Prop where
  g : NG n
  su : Sm n.1
  sv : Sm n.2.1
  sw : Sm n.2.2
/-- t is behind one of the edges. -/
theorem tow_beh {t : P2} {n : N6} (ht : Rg t) (G : NG n) (h : tow t n ≠ 0) : bhS t (spl n (tow t n)) ∧ (tow t n = 1 ∨ tow t n = 2 ∨ tow t n = 3) ∧ (t ≠ n.1 ∧ t ≠ n.2.1 ∧ t ≠ n.2.2) := by
  have hne : ¬ (t = n.1 ∨ t = n.2.1 ∨ t = n.2.2) := fun hc => h (by unfold tow; rw [if_pos hc])
  have hne' : t ≠ n.1 ∧ t ≠ n.2.1 ∧ t ≠ n.2.2 := ⟨fun e => hne (.inl e), fun e => hne (.inr (.inl e)), fun e => hne (.inr (.inr e))⟩
  unfold tow
  rw [if_neg hne]
  split
  · exact ⟨by assumption, by simp, hne'⟩
  · split
    · exact ⟨by assumption, by simp, hne'⟩
    · rename_i h1 h2
      refine ⟨?_, by simp, hne'⟩
      have s1 : spl n 1 = (n.1, n.2.1, n.2.2) := by simp [spl]
      have s2 : spl n 2 = (n.2.1, n.1, n.2.2) := by simp [spl]
      have s3 : spl n 3 = (n.2.2, n.1, n.2.1) := by simp [spl]
      rw [s1] at h1
      rw [s2] at h2
      rw [s3]
      obtain ⟨u, v, w⟩ := n
      unfold bhS at *
      dsimp only at *
      have nu : det t u ≠ 0 := fun e => hne'.1 (det_zero ht G.ru e)
      have nv : det t v ≠ 0 := fun e => hne'.2.1 (det_zero ht G.rv e)
      have nw : det t w ≠ 0 := fun e => hne'.2.2 (det_zero ht G.rw e)
      have a1 := det_anti u v
      have a2 := det_anti u w
      have a3 := det_anti v w
      have k1 := G.duv
      have k2 := G.dvw
      have k3 := G.duw
      dsimp only at k1 k2 k3
      rw [a1] at h2
      rw [a2, a3]
      rcases sgn_or nu with e1 | e1 <;> rcases sgn_or nv with e2 | e2 <;> rcases sgn_or nw with e3 | e3 <;> rcases k1 with f1 | f1 <;> rcases k2 with f2 | f2 <;> rcases k3 with f3 | f3 <;> simp only [e1, e2, e3, f1, f2, f3] at h1 h2 ⊢ <;>
        first | (exact absurd (by decide) h1) | (exact absurd (by decide) h2) | decide
theorem PV_step {t : P2} {n : N6} (ht : Rg t) (hs : Sm t) (V : PV t n) (h : tow t n ≠ 0) : PV t (nstp n (tow t n)) ∧ dM t (nstp n (tow t n)) < dM t n ∧ Nm2 (stR (spl n (tow t n))) := by
  obtain ⟨hb, hor, hne⟩ := tow_beh ht V.g h
  have S := spl_SG (tow t n) V.g
  have R := stR_NR S
  have hpq : t ≠ (spl n (tow t n)).2.1 ∧ t ≠ (spl n (tow t n)).2.2 ∧ Sm (spl n (tow t n)).2.1 ∧ Sm (spl n (tow t n)).2.2 := by
    have h1 := V.su
    have h2 := V.sv
    have h3 := V.sw
    rcases hor with e | e | e <;> rw [e] <;> simp [spl] <;> simp_all
  obtain ⟨k1, k2⟩ := beh_step S R ht hpq.1 hpq.2.1 hb hs hpq.2.2.1 hpq.2.2.2
  have hG := step_NG V.g k1.nm
  have hmk : nstp n (tow t n) = mkN (spl n (tow t n)).2.1 (spl n (tow t n)).2.2 (stR (spl n (tow t n))) := rfl
  rw [dM_spl] at k2
  refine ⟨⟨hG, ?_, ?_, ?_⟩, by rw [hmk, dM_mk]; exact k2, k1.nm⟩ <;> rw [hmk] <;> unfold mkN <;> split <;> (try split) <;> first | exact k1 | exact hpq.2.2.1 | exact hpq.2.2.2

/-- The way. -/
inductive Way (t : P2) : N6 → List Int → Prop
  | stop {n : N6} (h : tow t n = 0) : Way t n []
  | step {n : N6} {l : List Int} (h : tow t n ≠ 0) (r : Way t (nstp n (tow t n)) l) : Way t n (tow t n :: l)
theorem Way.det {t : P2} {n : N6} {l : List Int} (h : Way t n l) : ∀ {l' : List Int}, Way t n l' → l = l' := by
  induction h with
  | stop h =>
    intro l' h'
    cases h' with
    | stop _ => rfl
    | step h2 _ => exact absurd h h2
  | step h r ih =>
    intro l' h'
    cases h' with
    | stop h2 => exact absurd h2 h
    | step _ r2 => rw [ih r2]
theorem Way.ex {t : P2} (ht : Rg t) (hs : Sm t) : ∀ (k : Nat) (n : N6), dM t n ≤ k → PV t n → ∃ l, Way t n l ∧ l.length ≤ k
  | 0, n, h, V => by
    by_cases h0 : tow t n = 0
    · exact ⟨[], .stop h0, by simp⟩
    · have := (PV_step ht hs V h0).2.1; omega
  | k + 1, n, h, V => by
    by_cases h0 : tow t n = 0
    · exact ⟨[], .stop h0, by simp⟩
    · obtain ⟨V', h', _⟩ := PV_step ht hs V h0
      obtain ⟨l, w, hl⟩ := Way.ex ht hs k _ (by omega) V'
      exact ⟨_, .step h0 w, by simp; omega⟩

end Go.Proofs.Ytemlkfcbcphenaa
