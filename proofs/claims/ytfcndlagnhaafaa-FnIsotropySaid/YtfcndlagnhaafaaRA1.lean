/- Several texts in one: RQ, RS, RT, RU. -/
import Derived.Test.YtfcndlagnhaafaaH1
import Derived.Test.YtfcndlagnhaafaaH2
/-! The law of reciprocity: the symbol that is reckoned by steps is multiplicative. Plain laws. -/
namespace Go.Proofs.Ytfcndlagnhaafaa
open Go.RowKit
set_option linter.unusedSimpArgs false
set_option linter.unusedVariables false
set_option maxRecDepth 100000

/-- The symbol (-1/n). -/
def em (n : Int) : Int := if n % 4 = 3 then -1 else 1
theorem em_or (n : Int) : em n = 1 ∨ em n = -1 := by unfold em; split <;> simp
theorem pm_sq {x : Int} (h : x = 1 ∨ x = -1) : x * x = 1 := by rcases h with rfl | rfl <;> rfl
theorem sg_comm (a n : Int) : sg a n = sg n a := by unfold sg; simp only [And.comm]
theorem J_congr {a b n : Int} (h : a % n = b % n) : J a n = J b n := by rw [← J_mod a, ← J_mod b, h]
theorem J_bot1 (a : Int) : J a 1 = 1 := by rw [J, Int.emod_one, jac_zero]; rfl
theorem J_self {n : Int} (h : 1 < n) : J n n = 0 := by rw [J, Int.emod_self, jac_zero, if_neg (by omega)]

/-- Reciprocity, for odd positive integers. -/
theorem J_rec {a n : Int} (ha : 0 < a) (ha2 : a % 2 = 1) (hn : 0 < n) (hn2 : n % 2 = 1) : J a n = sg a n * J n a := by
  have key : ∀ a n : Int, 0 < a → a % 2 = 1 → a < n → J a n = sg a n * J n a := fun a n h1 h2 h3 => by
    rw [J_small (by omega) h3, jac_odd h1 (by omega), J]
  rcases Int.lt_trichotomy a n with h | h | h
  · exact key a n ha ha2 h
  · subst h
    by_cases h1 : a = 1
    · subst h1; rw [J_bot1]; rfl
    · rw [J_self (by omega)]; simp
  · rw [key n a hn hn2 h, sg_comm n a, ← Int.mul_assoc, pm_sq (sg_or a n), Int.one_mul]

/-- Half of a residue. -/
theorem J_half {a n : Int} (h0 : 0 ≤ a) (h : 2 * a < n) (hn2 : n % 2 = 1) : J (2 * a) n = two n * J a n := by
  by_cases ha : a = 0
  · subst ha
    rw [Int.mul_zero, J_zero]
    split
    · rename_i h1; subst h1; rfl
    · simp
  · rw [J_small (by omega) h, jac_even (by omega) (by omega), show 2 * a / 2 = a by omega, J_small h0 (by omega)]
def pw (x : Int) : Nat → Int
  | 0 => 1
  | k + 1 => x * pw x k
theorem pw_or {x : Int} (h : x = 1 ∨ x = -1) : ∀ k, pw x k = 1 ∨ pw x k = -1
  | 0 => .inl rfl
  | k + 1 => by
    have e := pw_or h k
    simp only [pw]
    rcases h with rfl | rfl <;> rcases e with e | e <;> rw [e] <;> simp
theorem pw2 (k : Nat) : (2 : Int) * pw 2 k = pw 2 (k + 1) := rfl
theorem pw2_pos : ∀ k, 0 < pw 2 k
  | 0 => by decide
  | k + 1 => by have := pw2_pos k; simp only [pw]; omega
theorem J_half_pow {c n : Int} (hn2 : n % 2 = 1) (h0 : 0 ≤ c) : ∀ k, pw 2 k * c < n → J (pw 2 k * c) n = pw (two n) k * J c n
  | 0, _ => by simp only [pw, Int.one_mul]
  | k + 1, h => by
    have hp := pw2_pos k
    have e : pw 2 (k + 1) * c = 2 * (pw 2 k * c) := by simp only [pw]; rw [Int.mul_assoc]
    have hnn : 0 ≤ pw 2 k * c := Int.mul_nonneg (by omega) h0
    rw [e] at h ⊢
    rw [J_half hnn h hn2, J_half_pow hn2 h0 k (by omega)]
    simp only [pw]
    rw [Int.mul_assoc]
/-- Each positive integer is a power of two times an odd one. -/
theorem odd_part : ∀ (m : Nat) (a : Int), 0 < a → a.toNat ≤ m → ∃ k c, a = pw 2 k * c ∧ 0 < c ∧ c % 2 = 1 ∧ c ≤ a ∧ (a % 2 = 0 → 1 ≤ k)
  | 0, a, h, hm => by omega
  | m + 1, a, h, hm => by
    by_cases h2 : a % 2 = 1
    · exact ⟨0, a, by simp [pw], h, h2, Int.le_refl _, by omega⟩
    · obtain ⟨k, c, e, h3, h4, h5, _⟩ := odd_part m (a / 2) (by omega) (by omega)
      refine ⟨k + 1, c, ?_, h3, h4, by omega, fun _ => by omega⟩
      simp only [pw]
      rw [Int.mul_assoc, ← e]
      omega

/-- What is shown of the symbols modulo n. -/
structure JOk (n : Int) : Prop where
  t : ∀ a, J (2 * a) n = two n * J a n
  ng : ∀ a, J (-a) n = em n * J a n
  m : ∀ a b, J (a * b) n = J a n * J b n
theorem JOk.tp {n : Int} (h : ∀ a, J (2 * a) n = two n * J a n) (c : Int) : ∀ k, J (pw 2 k * c) n = pw (two n) k * J c n
  | 0 => by simp only [pw, Int.one_mul]
  | k + 1 => by
    simp only [pw]
    rw [Int.mul_assoc, h, JOk.tp h c k, Int.mul_assoc]

/-! signs: all depends on residues modulo 8 -/
theorem two_mod (n : Int) : two n = two (n % 8) := by unfold two; rw [Int.emod_emod_of_dvd n (by decide)]
theorem em_mod (n : Int) : em n = em (n % 8) := by unfold em; rw [Int.emod_emod_of_dvd n (by decide)]
theorem sg_mod (a n : Int) : sg a n = sg (a % 8) (n % 8) := by unfold sg; rw [Int.emod_emod_of_dvd n (by decide), Int.emod_emod_of_dvd a (by decide)]
theorem odd8 {n : Int} (h : n % 2 = 1) : n % 8 ∈ ([1, 3, 5, 7] : List Int) := by
  simp only [List.mem_cons, List.not_mem_nil, or_false]; omega
/-- 2 to the power k: its residue modulo 8, and whether k is odd. -/
theorem pw_cases (k : Nat) (hk : 1 ≤ k) : (pw 2 k % 8, k % 2) ∈ ([(2, 1), (4, 0), (0, 0), (0, 1)] : List (Int × Nat)) := by
  match k, hk with
  | 1, _ => decide
  | 2, _ => decide
  | k + 3, _ =>
    have : pw 2 (k + 3) % 8 = 0 := by simp only [pw]; omega
    rw [this]
    have h2 : (k + 3) % 2 = 0 ∨ (k + 3) % 2 = 1 := by omega
    rcases h2 with e | e <;> rw [e] <;> decide
theorem pw_par {x : Int} (h : x = 1 ∨ x = -1) (k : Nat) : pw x k = if k % 2 = 1 then x else 1 := by
  induction k with
  | zero => rfl
  | succ k ih =>
    simp only [pw, ih]
    rcases Nat.mod_two_eq_zero_or_one k with e | e
    · rw [if_neg (by omega), if_pos (by omega)]; simp
    · rw [if_pos e, if_neg (by omega)]; exact pm_sq h
def od : List Int := [1, 3, 5, 7]
def pk : List (Int × Nat) := [(2, 1), (4, 0), (0, 0), (0, 1)]
def pe (x : Int) (e : Nat) : Int := if e = 1 then x else 1

/-- The signs of J(n - a, n). -/
def chkN : Bool := od.all fun a => od.all fun c => pk.all fun p => let n := (a + p.1 * c) % 8
  pe (two n) p.2 * sg c n == em n * (sg a n * (pe (two a) p.2 * sg c a))
theorem chkN_true : chkN = true := by decide +kernel
/-- The signs of J(2 a, n). -/
def chkT : Bool := od.all fun d => od.all fun c => pk.all fun p => let n := (p.1 * c - d) % 8
  sg d n * (pe (two d) p.2 * sg c d) == pe (two n) p.2 * (sg c n * em c)
theorem chkT_true : chkT = true := by decide +kernel
theorem mod8_lin (a p c : Int) : (a + p * c) % 8 = (a % 8 + p % 8 * (c % 8)) % 8 := by
  rw [Int.add_emod, Int.mul_emod p c]
  generalize p % 8 * (c % 8) = X
  omega
theorem mod8_sub (a p c : Int) : (p * c - a) % 8 = (p % 8 * (c % 8) - a % 8) % 8 := by
  rw [Int.sub_emod, Int.mul_emod p c]
  generalize p % 8 * (c % 8) = X
  omega
theorem sgnN {a c n : Int} {k : Nat} (ha : a % 2 = 1) (hc : c % 2 = 1) (hk : 1 ≤ k) (hn : n = a + pw 2 k * c) : pw (two n) k * sg c n = em n * (sg a n * (pw (two a) k * sg c a)) := by
  have h := chkN_true
  simp only [chkN, List.all_eq_true, beq_iff_eq] at h
  have h := h (a % 8) (odd8 ha) (c % 8) (odd8 hc) _ (pw_cases k hk)
  rw [← mod8_lin, ← hn] at h
  rw [pw_par (two_or n), pw_par (two_or a), two_mod n, two_mod a, sg_mod c n, em_mod n, sg_mod a n, sg_mod c a]
  exact h
theorem sgnT {d c n : Int} {k : Nat} (hd : d % 2 = 1) (hc : c % 2 = 1) (hk : 1 ≤ k) (hn : n = pw 2 k * c - d) : sg d n * (pw (two d) k * sg c d) = pw (two n) k * (sg c n * em c) := by
  have h := chkT_true
  simp only [chkT, List.all_eq_true, beq_iff_eq] at h
  have h := h (d % 8) (odd8 hd) (c % 8) (odd8 hc) _ (pw_cases k hk)
  rw [← mod8_sub, ← hn] at h
  rw [pw_par (two_or n), pw_par (two_or d), two_mod n, two_mod d, sg_mod c n, em_mod c, sg_mod d n, sg_mod c d]
  exact h

theorem JN_odd {n a : Int} (hn : n % 2 = 1) (ha0 : 0 < a) (han : a < n) (ha : a % 2 = 1) (IH : ∀ m, 0 < m → m < n → m % 2 = 1 → JOk m) : J (n - a) n = em n * J a n := by
  obtain ⟨k, c, e, hc0, hc2, hcle, hk⟩ := odd_part _ (n - a) (by omega) (Nat.le_refl _)
  have hk1 := hk (by omega)
  have hna : n = a + pw 2 k * c := by omega
  have e1 : J n c = J a c := J_congr (by rw [hna, Int.add_mul_emod_self_right])
  have e2 : J n a = J (pw 2 k * c) a := J_congr (by rw [hna, Int.add_comm, Int.add_emod_right])
  rw [e, J_half_pow hn (by omega) k (by omega), J_rec hc0 hc2 (by omega) hn, e1, J_rec ha0 ha (by omega) hn, e2, JOk.tp (IH a ha0 han ha).t, J_rec hc0 hc2 ha0 ha]
  have s := sgnN ha hc2 hk1 hna
  generalize J a c = x at *
  rw [← Int.mul_assoc, s]
  simp only [Int.mul_assoc]
theorem JN {n : Int} (hn0 : 0 < n) (hn : n % 2 = 1) (IH : ∀ m, 0 < m → m < n → m % 2 = 1 → JOk m) (a : Int) : J (-a) n = em n * J a n := by
  have h1 := Int.emod_nonneg a (show n ≠ 0 by omega)
  have h2 := Int.emod_lt_of_pos a hn0
  have e0 : -a = (n - a % n) + n * (-(a / n) - 1) := by
    have := Int.emod_add_mul_ediv a n
    rw [Int.mul_sub, Int.mul_neg]; omega
  have e1 : J (-a) n = J (n - a % n) n := J_congr (by rw [e0, Int.add_mul_emod_self_left])
  rw [e1, ← J_mod a n]
  generalize a % n = r at *
  by_cases h0 : r = 0
  · subst h0
    rw [Int.sub_zero]
    by_cases hn1 : n = 1
    · subst hn1; rw [J_bot1, J_bot1]; rfl
    · rw [J_self (by omega), J_zero, if_neg hn1]; simp
  · by_cases ho : r % 2 = 1
    · exact JN_odd hn (by omega) h2 ho IH
    · have := JN_odd (n := n) (a := n - r) hn (by omega) (by omega) (by omega) IH
      rw [show n - (n - r) = r by omega] at this
      rw [this, ← Int.mul_assoc, pm_sq (em_or n), Int.one_mul]
theorem JT {n : Int} (hn0 : 0 < n) (hn : n % 2 = 1) (IH : ∀ m, 0 < m → m < n → m % 2 = 1 → JOk m) (a : Int) : J (2 * a) n = two n * J a n := by
  have h1 := Int.emod_nonneg a (show n ≠ 0 by omega)
  have h2 := Int.emod_lt_of_pos a hn0
  have e1 : J (2 * a) n = J (2 * (a % n)) n := J_congr (by rw [Int.mul_emod, Int.mul_emod 2 (a % n), Int.emod_emod_of_dvd a (Int.dvd_refl n)])
  rw [e1, ← J_mod a n]
  generalize a % n = r at *
  by_cases hh : 2 * r < n
  · exact J_half h1 hh hn
  obtain ⟨k, c, e, hc0, hc2, hcle, _⟩ := odd_part _ r (by omega) (Nat.le_refl _)
  -- d = 2 r - n
  have hd : ∃ d, d = 2 * r - n := ⟨_, rfl⟩
  obtain ⟨d, hd⟩ := hd
  have d0 : 0 < d := by omega
  have d2 : d % 2 = 1 := by omega
  have dn : d < n := by omega
  have hnd : n = pw 2 (k + 1) * c - d := by simp only [pw]; rw [Int.mul_assoc, ← e]; omega
  have g1 : J (2 * r) n = J d n := J_congr (by rw [hd, Int.sub_emod, Int.emod_self]; simp)
  have g2 : J n d = J (2 * r) d := J_congr (by rw [show n = 2 * r - d by omega, Int.sub_emod, Int.emod_self]; simp)
  have g3 : J n c = J (-d) c := J_congr (by rw [hnd, Int.sub_eq_add_neg, Int.add_comm, Int.add_mul_emod_self_right])
  have lhs : J (2 * r) n = sg d n * (pw (two d) (k + 1) * sg c d) * J d c := by
    rw [g1, J_rec d0 d2 (by omega) hn, g2, (IH d d0 dn d2).t, e, JOk.tp (IH d d0 dn d2).t, J_rec hc0 hc2 d0 d2]
    simp only [pw, Int.mul_assoc]
  have rhs : two n * J r n = pw (two n) (k + 1) * (sg c n * em c) * J d c := by
    rw [e, J_half_pow hn (by omega) k (by omega), J_rec hc0 hc2 (by omega) hn, g3, (IH c hc0 (by omega) hc2).ng]
    simp only [pw, Int.mul_assoc]
  rw [lhs, rhs, sgnT d2 hc2 (by omega) hnd]
end Go.Proofs.Ytfcndlagnhaafaa

/-! The law of reciprocity: the symbol is multiplicative above, by induction. Plain laws. -/
namespace Go.Proofs.Ytfcndlagnhaafaa
open Go.RowKit
set_option linter.unusedSimpArgs false
set_option linter.unusedVariables false
set_option maxRecDepth 100000

theorem euclid {d k n : Int} (h : Int.gcd d n = 1) (hd : d ∣ k * n) : d ∣ k :=
  Int.natAbs_dvd_natAbs.1 (Nat.Coprime.dvd_of_dvd_mul_right h (by rw [← Int.natAbs_mul]; exact Int.natAbs_dvd_natAbs.2 hd))
theorem odd_mul {x y : Int} (h : (x * y) % 2 = 1) : x % 2 = 1 ∧ y % 2 = 1 := by
  have hm := Int.mul_emod x y 2
  rw [h] at hm
  have hx : x % 2 = 0 ∨ x % 2 = 1 := by omega
  have hy : y % 2 = 0 ∨ y % 2 = 1 := by omega
  rcases hx with e | e <;> rcases hy with e2 | e2 <;> rw [e, e2] at hm <;> omega
theorem mul_odd {x y : Int} (h : x % 2 = 1) (h2 : y % 2 = 1) : (x * y) % 2 = 1 := by
  rw [Int.mul_emod, h, h2]; rfl
theorem odd_dvd {d n : Int} (h : d ∣ n) (hn : n % 2 = 1) : d % 2 = 1 := by
  obtain ⟨y, e⟩ := h
  rw [e] at hn
  exact (odd_mul hn).1
theorem even_of {d y : Int} (hd : d % 2 = 1) (h : (d * y) % 2 = 0) : y % 2 = 0 := by
  by_cases e : y % 2 = 1
  · rw [mul_odd hd e] at h; omega
  · omega
theorem dvd_half {d x : Int} (hd : d % 2 = 1) (h : d ∣ 2 * x) : d ∣ x := by
  obtain ⟨y, hy⟩ := h
  have h2 := even_of hd (y := y) (by rw [← hy]; omega)
  obtain ⟨z, e⟩ : ∃ z, y = 2 * z := ⟨y / 2, by omega⟩
  subst e
  refine ⟨z, ?_⟩
  rw [Int.mul_left_comm] at hy
  omega
theorem dvd_pw {d c : Int} (hd : d % 2 = 1) : ∀ k, d ∣ pw 2 k * c → d ∣ c
  | 0, h => by simpa only [pw, Int.one_mul] using h
  | k + 1, h => dvd_pw hd k (dvd_half hd (by simpa only [pw, Int.mul_assoc] using h))
theorem J_dvd : ∀ (m : Nat) (a n d : Int), n.toNat ≤ m → 0 < n → n % 2 = 1 → 1 < d → d ∣ a → d ∣ n → J a n = 0
  | 0, a, n, d, h, h0, _, _, _, _ => by omega
  | m + 1, a, n, d, h, h0, h2, h1, ha, hn => by
    have hd2 := odd_dvd hn h2
    have hdn := Int.le_of_dvd h0 hn
    have hr : d ∣ a % n := by
      rw [Int.emod_def]
      exact Int.dvd_sub ha (Int.dvd_trans hn (Int.dvd_mul_right n _))
    have r0 := Int.emod_nonneg a (show n ≠ 0 by omega)
    have r1 := Int.emod_lt_of_pos a h0
    rw [← J_mod a n]
    generalize a % n = r at *
    by_cases e : r = 0
    · subst e; rw [J_zero, if_neg (by omega)]
    obtain ⟨k, c, e2, c0, c2, cle, _⟩ := odd_part _ r (by omega) (Nat.le_refl _)
    have hc : d ∣ c := dvd_pw hd2 k (by rw [← e2]; exact hr)
    rw [e2, J_half_pow h2 (by omega) k (by omega), J_rec c0 c2 h0 h2, J_dvd m n c d (by omega) c0 c2 h1 hn hc]
    simp
theorem J_cop {a n : Int} (h0 : 0 < n) (h2 : n % 2 = 1) (h : J a n ≠ 0) : Int.gcd a n = 1 := by
  have l := Int.gcd_dvd_left a n
  have r := Int.gcd_dvd_right a n
  have p := Int.le_of_dvd h0 r
  by_cases e : Int.gcd a n = 1
  · exact e
  exfalso
  by_cases e0 : Int.gcd a n = 0
  · rw [e0] at r
    have := Int.zero_dvd.1 r
    omega
  · exact h (J_dvd _ a n _ (Nat.le_refl _) h0 h2 (by omega) l r)
theorem J_nz {a n : Int} (h0 : 0 < n) (h : Int.gcd a n = 1) : J a n ≠ 0 := by
  intro e
  refine jac_gcd _ (a % n) n (Nat.le_refl _) (Int.emod_nonneg a (by omega)) h0 e ?_
  have l := Int.gcd_dvd_left (a % n) n
  have r := Int.gcd_dvd_right (a % n) n
  have l2 : ((Int.gcd (a % n) n : Nat) : Int) ∣ a := by
    have h2 := Int.dvd_add l (Int.dvd_trans r (Int.dvd_mul_right n (a / n)))
    rw [Int.emod_add_mul_ediv] at h2
    exact h2
  have := Int.dvd_gcd l2 r
  rw [h] at this
  exact Nat.dvd_one.1 this
theorem J_pm {a n : Int} (h : J a n ≠ 0) : J a n = 1 ∨ J a n = -1 := by
  rcases J_or a n with e | e | e
  · exact .inl e
  · exact .inr e
  · exact absurd e h
theorem pm_mul {x y : Int} (h : x = 1 ∨ x = -1) (h2 : y = 1 ∨ y = -1) : x * y = 1 ∨ x * y = -1 := by
  rcases h with rfl | rfl <;> rcases h2 with rfl | rfl <;> simp
theorem pm_mv {p N q : Int} (h : p = 1 ∨ p = -1) (e : p * N = q) : N = p * q := by
  rw [← e, ← Int.mul_assoc, pm_sq h, Int.one_mul]
theorem pw_mul (x y : Int) : ∀ k, pw (x * y) k = pw x k * pw y k
  | 0 => rfl
  | k + 1 => by
    simp only [pw, pw_mul x y k]
    ac_rfl

def chk2 : Bool := od.all fun a => od.all fun b => two (a * b % 8) == two a * two b && od.all fun c => sg c (a * b % 8) == sg c a * sg c b
theorem chk2_true : chk2 = true := by decide +kernel
theorem two_mul {a b : Int} (ha : a % 2 = 1) (hb : b % 2 = 1) : two (a * b) = two a * two b := by
  have h := chk2_true
  simp only [chk2, List.all_eq_true, beq_iff_eq, Bool.and_eq_true] at h
  have h := (h (a % 8) (odd8 ha) (b % 8) (odd8 hb)).1
  rw [two_mod, Int.mul_emod, h, ← two_mod, ← two_mod]
theorem sg_mul {a b c : Int} (ha : a % 2 = 1) (hb : b % 2 = 1) (hc : c % 2 = 1) : sg c (a * b) = sg c a * sg c b := by
  have h := chk2_true
  simp only [chk2, List.all_eq_true, beq_iff_eq, Bool.and_eq_true] at h
  have h := (h (a % 8) (odd8 ha) (b % 8) (odd8 hb)).2 _ (odd8 hc)
  rw [sg_mod, Int.mul_emod, h, ← sg_mod, ← sg_mod]

theorem le_mul {a b : Int} (ha : 0 < a) (hb : 0 < b) : a ≤ a * b ∧ b ≤ a * b := by
  have h1 := Int.mul_le_mul_of_nonneg_left (show 1 ≤ b by omega) (show 0 ≤ a by omega)
  have h2 := Int.mul_le_mul_of_nonneg_right (show 1 ≤ a by omega) (show 0 ≤ b by omega)
  omega
/-- Multiplicative below. -/
theorem JB {a b : Int} (ha0 : 0 < a) (ha2 : a % 2 = 1) (hb0 : 0 < b) (hb2 : b % 2 = 1) (IH : ∀ m, 0 < m → m ≤ a * b → m % 2 = 1 → JOk m) (x : Int) : J x (a * b) = J x a * J x b := by
  obtain ⟨h1, h2⟩ := le_mul ha0 hb0
  have hN2 := mul_odd ha2 hb2
  have z0 := Int.emod_nonneg x (show a * b ≠ 0 by omega)
  have z1 := Int.emod_lt_of_pos x (show 0 < a * b by omega)
  rw [← J_mod x (a * b), ← J_congr (Int.emod_emod_of_dvd x (Int.dvd_mul_right a b)), ← J_congr (Int.emod_emod_of_dvd x (Int.dvd_mul_left a b))]
  generalize x % (a * b) = z at *
  by_cases e : z = 0
  · subst e
    rw [J_zero, J_zero, J_zero]
    by_cases e1 : a = 1
    · subst e1; simp
    · rw [if_neg (by omega), if_neg e1]; simp
  obtain ⟨k, c, e2, c0, c2, cle, _⟩ := odd_part _ z (by omega) (Nat.le_refl _)
  have o1 := IH _ (by omega) (Int.le_refl _) hN2
  have o2 := IH a ha0 h1 ha2
  have o3 := IH b hb0 h2 hb2
  have o4 := IH c c0 (by omega) c2
  rw [e2, JOk.tp o1.t, JOk.tp o2.t, JOk.tp o3.t, J_rec c0 c2 (by omega) hN2, J_rec c0 c2 ha0 ha2, J_rec c0 c2 hb0 hb2, o4.m, two_mul ha2 hb2, pw_mul, sg_mul ha2 hb2 c2]
  ac_rfl
theorem JS {n a b : Int} (hn0 : 0 < n) (hn2 : n % 2 = 1) (IH : ∀ m, 0 < m → m < n → m % 2 = 1 → JOk m) (ha0 : 0 < a) (ha2 : a % 2 = 1) (hb0 : 0 < b) (hb2 : b % 2 = 1) (h : a * b < n) : J (a * b) n = J a n * J b n := by
  obtain ⟨h1, h2⟩ := le_mul ha0 hb0
  rw [J_rec (by omega) (mul_odd ha2 hb2) hn0 hn2, JB ha0 ha2 hb0 hb2 (fun m m0 m1 m2 => IH m m0 (by omega) m2), sg_comm, sg_mul ha2 hb2 hn2, J_rec ha0 ha2 hn0 hn2, J_rec hb0 hb2 hn0 hn2, sg_comm n a, sg_comm n b]
  ac_rfl

/-- The symbols of -s and of s. -/
def Mm (s m : Int) : Int := if s = 1 then em m else 1
def Ss (s m : Int) : Int := if s = 1 then 1 else em m
theorem Mm_or (s m : Int) : Mm s m = 1 ∨ Mm s m = -1 := by unfold Mm; split; exact em_or m; exact .inl rfl
theorem Ss_or (s m : Int) : Ss s m = 1 ∨ Ss s m = -1 := by unfold Ss; split; exact .inl rfl; exact em_or m
theorem JM {s m : Int} (hs : s = 1 ∨ s = -1) (o : JOk m) (c : Int) : J (-(s * c)) m = Mm s m * J c m := by
  rcases hs with rfl | rfl
  · rw [Int.one_mul, o.ng]; rfl
  · rw [show -(-1 * c) = c by omega]; simp [Mm]
theorem JSs {s m : Int} (hs : s = 1 ∨ s = -1) (o : JOk m) (c : Int) : J (s * c) m = Ss s m * J c m := by
  rcases hs with rfl | rfl
  · rw [Int.one_mul]; simp [Ss]
  · rw [show -1 * c = -c by omega, o.ng]; simp [Ss]

def chkC : Bool := od.all fun a => od.all fun b => od.all fun n => od.all fun k => pk.all fun p =>
  let X := a * b % 8
  let Y := (p.1 * k % 8) * n % 8
  [((1 : Int), (X - Y) % 8), (-1, (Y - X) % 8)].all fun q =>
    sg a n * sg b n * (pe (two a) p.2 * pe (two b) p.2) * (sg k a * sg k b) * (Mm q.1 a * Mm q.1 b) * Ss q.1 k == Ss q.1 n * sg q.2 n * pe (two q.2) p.2 * sg k q.2 * sg a q.2 * sg b q.2
theorem chkC_true : chkC = true := by decide +kernel
theorem Mm_mod (s m : Int) : Mm s m = Mm s (m % 8) := by unfold Mm; rw [em_mod]
theorem Ss_mod (s m : Int) : Ss s m = Ss s (m % 8) := by unfold Ss; rw [em_mod]
theorem sgnC {s a b c n k : Int} {t : Nat} (hs : s = 1 ∨ s = -1) (ha : a % 2 = 1) (hb : b % 2 = 1) (hn : n % 2 = 1) (hk : k % 2 = 1) (ht : 1 ≤ t) (e : a * b = s * c + pw 2 t * k * n) :
    sg a n * sg b n * (pw (two a) t * pw (two b) t) * (sg k a * sg k b) * (Mm s a * Mm s b) * Ss s k = Ss s n * sg c n * pw (two c) t * sg k c * sg a c * sg b c := by
  have h := chkC_true
  simp only [chkC, List.all_eq_true, beq_iff_eq] at h
  have h := h (a % 8) (odd8 ha) (b % 8) (odd8 hb) (n % 8) (odd8 hn) (k % 8) (odd8 hk) _ (pw_cases t ht) (s, c % 8)
  have hX := Int.mul_emod a b 8
  have hY := Int.mul_emod (pw 2 t * k) n 8
  rw [Int.mul_emod (pw 2 t) k 8] at hY
  have h := h (by
    rw [← hX, ← hY]
    rcases hs with rfl | rfl
    · simp only [List.mem_cons, Prod.mk.injEq, true_and]
      left
      rw [Int.one_mul] at e
      omega
    · simp only [List.mem_cons, Prod.mk.injEq, true_and]
      right; left
      omega)
  rw [pw_par (two_or a), pw_par (two_or b), pw_par (two_or c), two_mod a, two_mod b, two_mod c, sg_mod a n, sg_mod b n, sg_mod k a, sg_mod k b, Mm_mod s a, Mm_mod s b, Ss_mod s k, Ss_mod s n, sg_mod c n, sg_mod k c, sg_mod a c, sg_mod b c]
  exact h
theorem finC {Sa Sb Sc Ta Tb Tc Ka Kb Kc Ma Mb Sn Sk ac bc Na Nb Nc u v w x y : Int}
    (e1 : Na = (Ta * Ka * u) * (Ma * x)) (e2 : Nb = (Tb * Kb * v) * (Mb * y)) (e3 : Nc = (Tc * Kc * w) * ((ac * x) * (bc * y))) (e4 : u * v = Sk * w)
    (hs : Sa * Sb * (Ta * Tb) * (Ka * Kb) * (Ma * Mb) * Sk = Sn * Sc * Tc * Kc * ac * bc) : (Sa * Na) * (Sb * Nb) = Sn * (Sc * Nc) := by
  rw [e1, e2, e3]
  have h1 : (Sa * (Ta * Ka * u * (Ma * x))) * (Sb * (Tb * Kb * v * (Mb * y))) = (Sa * Sb * (Ta * Tb) * (Ka * Kb) * (Ma * Mb)) * (u * v) * (x * y) := by ac_rfl
  have h2 : (Sa * Sb * (Ta * Tb) * (Ka * Kb) * (Ma * Mb)) * (Sk * w) * (x * y) = (Sa * Sb * (Ta * Tb) * (Ka * Kb) * (Ma * Mb) * Sk) * w * (x * y) := by ac_rfl
  rw [h1, e4, h2, hs]
  ac_rfl
/-- The core: all symbols are signs. -/
theorem JCC {n : Int} (hn0 : 0 < n) (hn2 : n % 2 = 1) (IH : ∀ m, 0 < m → m < n → m % 2 = 1 → JOk m) {s a b c k : Int} {t : Nat} (hs : s = 1 ∨ s = -1)
    (a0 : 0 < a) (an : a < n) (a2 : a % 2 = 1) (b0 : 0 < b) (bn : b < n) (b2 : b % 2 = 1) (c0 : 0 < c) (cn : c < n) (c2 : c % 2 = 1) (k0 : 0 < k) (kn : k < n) (k2 : k % 2 = 1) (ht : 1 ≤ t)
    (e : a * b = s * c + pw 2 t * k * n) (gac : Int.gcd a c = 1) (gbc : Int.gcd b c = 1) : J a n * J b n = Ss s n * J c n := by
  have oa := IH a a0 an a2
  have ob := IH b b0 bn b2
  have oc := IH c c0 cn c2
  have ok := IH k k0 kn k2
  have q1 : J (pw 2 t * k * n) c = J (a * b) c := J_congr (by rw [e, Int.add_comm, Int.add_mul_emod_self_right])
  have q2 : J (a * b) k = J (s * c) k := J_congr (by rw [e, show pw 2 t * k * n = k * (pw 2 t * n) by ac_rfl, Int.add_mul_emod_self_left])
  have q3 : J (pw 2 t * k * n) a = J (-(s * c)) a := J_congr (by rw [show pw 2 t * k * n = -(s * c) + a * b by omega, Int.add_mul_emod_self_left])
  have q4 : J (pw 2 t * k * n) b = J (-(s * c)) b := J_congr (by rw [show pw 2 t * k * n = -(s * c) + a * b by omega, Int.add_mul_emod_self_right])
  rw [oc.m, JOk.tp oc.t, oc.m, J_rec k0 k2 c0 c2, J_rec a0 a2 c0 c2, J_rec b0 b2 c0 c2] at q1
  rw [ok.m, JSs hs ok] at q2
  rw [oa.m, JOk.tp oa.t, JM hs oa, J_rec k0 k2 a0 a2] at q3
  rw [ob.m, JOk.tp ob.t, JM hs ob, J_rec k0 k2 b0 b2] at q4
  have x1 : J c a = 1 ∨ J c a = -1 := J_pm (J_nz a0 (by rw [Int.gcd_comm]; exact gac))
  have y1 : J c b = 1 ∨ J c b = -1 := J_pm (J_nz b0 (by rw [Int.gcd_comm]; exact gbc))
  have w1 : J c k = 1 ∨ J c k = -1 := J_pm (by
    intro w0
    rw [w0] at q1
    have := pm_mul (pm_mul (sg_or a c) x1) (pm_mul (sg_or b c) y1)
    rw [← q1] at this
    simp at this)
  have uv : J a k * J b k = 1 ∨ J a k * J b k = -1 := by rw [q2]; exact pm_mul (Ss_or s k) w1
  have u1 : J a k = 1 ∨ J a k = -1 := J_pm (by intro u0; rw [u0] at uv; simp at uv)
  have v1 : J b k = 1 ∨ J b k = -1 := J_pm (by intro u0; rw [u0] at uv; simp at uv)
  rw [J_rec a0 a2 hn0 hn2, J_rec b0 b2 hn0 hn2, J_rec c0 c2 hn0 hn2]
  refine finC (x := J c a) (y := J c b) (pm_mv (p := pw (two a) t * sg k a * J a k) ?_ ?_) (pm_mv (p := pw (two b) t * sg k b * J b k) ?_ ?_) (pm_mv (p := pw (two c) t * sg k c * J c k) ?_ ?_) q2 (sgnC hs a2 b2 hn2 k2 ht e)
  · exact pm_mul (pm_mul (pw_or (two_or a) t) (sg_or k a)) u1
  · rw [← q3]; ac_rfl
  · exact pm_mul (pm_mul (pw_or (two_or b) t) (sg_or k b)) v1
  · rw [← q4]; ac_rfl
  · exact pm_mul (pm_mul (pw_or (two_or c) t) (sg_or k c)) w1
  · rw [← q1]; ac_rfl
/-- The step, when a and c have a common divisor. -/
theorem JCred {n : Int} (hn0 : 0 < n) (hn2 : n % 2 = 1) (IH : ∀ m, 0 < m → m < n → m % 2 = 1 → JOk m) {s a b c k : Int}
    (a0 : 0 < a) (an : a < n) (a2 : a % 2 = 1) (c0 : 0 < c) (cn : c < n) (c2 : c % 2 = 1) (k0 : 0 ≤ k) (k2 : k % 2 = 0)
    (e : a * b = s * c + k * n) (ga : Int.gcd a n = 1) (gac : Int.gcd a c ≠ 1)
    (R : ∀ a1 c1 k1, 0 < a1 → a1 < a → a1 % 2 = 1 → 0 < c1 → c1 < n → c1 % 2 = 1 → 0 ≤ k1 → k1 % 2 = 0 → a1 * b = s * c1 + k1 * n → Int.gcd a1 n = 1 → J a1 n * J b n = Ss s n * J c1 n) :
    J a n * J b n = Ss s n * J c n := by
  have l := Int.gcd_dvd_left a c
  have r := Int.gcd_dvd_right a c
  have p := Int.le_of_dvd a0 l
  have g0 : Int.gcd a c ≠ 0 := by
    intro e0
    rw [e0] at r
    have := Int.zero_dvd.1 r
    omega
  have g1 : (1 : Int) < (Int.gcd a c : Nat) := by omega
  generalize hG : ((Int.gcd a c : Nat) : Int) = g at *
  have lk : g ∣ k * n := by
    rw [show k * n = a * b - s * c by omega]
    exact Int.dvd_sub (Int.dvd_trans l (Int.dvd_mul_right a b)) (Int.dvd_trans r (Int.dvd_mul_left s c))
  have ggn : Int.gcd g n = 1 := by
    have h1 := Int.gcd_dvd_left g n
    have h2 := Int.gcd_dvd_right g n
    have h3 := Int.dvd_gcd (Int.dvd_trans h1 l) h2
    rw [ga] at h3
    exact Nat.dvd_one.1 h3
  have lk2 := euclid ggn lk
  obtain ⟨a1, ea⟩ := l
  obtain ⟨c1, ec⟩ := r
  obtain ⟨k1, ek⟩ := lk2
  have a2' := odd_mul (x := g) (y := a1) (by rw [← ea]; exact a2)
  have c2' := odd_mul (x := g) (y := c1) (by rw [← ec]; exact c2)
  have pos : ∀ x y : Int, x = g * y → 0 < x → 0 < y := by
    intro x y h h0
    by_cases hy : 0 < y
    · exact hy
    · have := Int.mul_le_mul_of_nonneg_left (show y ≤ 0 by omega) (show 0 ≤ g by omega)
      omega
  have lt : ∀ x y : Int, x = g * y → 0 < y → y < x := by
    intro x y h h0
    have := Int.mul_le_mul_of_nonneg_right (show 2 ≤ g by omega) (show 0 ≤ y by omega)
    omega
  have a10 := pos a a1 ea a0
  have c10 := pos c c1 ec c0
  have a1a := lt a a1 ea a10
  have c1c := lt c c1 ec c10
  have gle := le_mul (a := g) (b := a1) (by omega) a10
  have k10 : 0 ≤ k1 := by
    by_cases hk : 0 ≤ k1
    · exact hk
    · have := Int.mul_le_mul_of_nonneg_left (show k1 ≤ -1 by omega) (show 0 ≤ g by omega)
      omega
  have ka : J a n = J g n * J a1 n := by rw [ea]; exact JS hn0 hn2 IH (by omega) a2'.1 a10 a2'.2 (by omega)
  have kc : J c n = J g n * J c1 n := by rw [ec]; exact JS hn0 hn2 IH (by omega) a2'.1 c10 c2'.2 (by omega)
  have e1 : a1 * b = s * c1 + k1 * n := by
    refine Int.eq_of_mul_eq_mul_left (a := g) (by omega) ?_
    rw [Int.mul_add, ← Int.mul_assoc, ← ea, e, Int.mul_left_comm g s c1, ← ec, ← Int.mul_assoc g k1 n, ← ek]
  have ga1 : Int.gcd a1 n = 1 := by
    have h1 := Int.gcd_dvd_left a1 n
    have h2 := Int.gcd_dvd_right a1 n
    have h3 := Int.dvd_gcd (a := a) (Int.dvd_trans h1 ⟨g, by rw [ea, Int.mul_comm]⟩) h2
    rw [ga] at h3
    exact Nat.dvd_one.1 h3
  have z := R a1 c1 k1 a10 a1a a2'.2 c10 (by omega) c2'.2 k10 (even_of a2'.1 (by rw [← ek]; exact k2)) e1 ga1
  rw [ka, kc, Int.mul_assoc, z]
  ac_rfl
theorem JC {n : Int} (hn0 : 0 < n) (hn2 : n % 2 = 1) (IH : ∀ m, 0 < m → m < n → m % 2 = 1 → JOk m) {s : Int} (hs : s = 1 ∨ s = -1) : ∀ (m : Nat) (a b c k : Int), a.toNat + b.toNat ≤ m →
    0 < a → a < n → a % 2 = 1 → 0 < b → b < n → b % 2 = 1 → 0 < c → c < n → c % 2 = 1 → 0 ≤ k → k % 2 = 0 → a * b = s * c + k * n → Int.gcd a n = 1 → Int.gcd b n = 1 → J a n * J b n = Ss s n * J c n
  | 0, a, b, c, k, hm, a0, _, _, _, _, _, _, _, _, _, _, _, _, _ => by omega
  | m + 1, a, b, c, k, hm, a0, an, a2, b0, bn, b2, c0, cn, c2, k0, k2, e, ga, gb => by
    by_cases gac : Int.gcd a c = 1
    · by_cases gbc : Int.gcd b c = 1
      · by_cases hk : k = 0
        · subst hk
          rw [Int.zero_mul, Int.add_zero] at e
          obtain ⟨h1, h2⟩ := le_mul a0 b0
          rcases hs with rfl | rfl
          · rw [Int.one_mul] at e
            rw [← e, JS hn0 hn2 IH a0 a2 b0 b2 (by omega)]
            simp [Ss]
          · omega
        · obtain ⟨t, q, ek, q0, q2, qle, ht⟩ := odd_part _ k (by omega) (Nat.le_refl _)
          have kn : k < n := by
            by_cases h : k < n
            · exact h
            exfalso
            have h1 := Int.mul_le_mul_of_nonneg_right (show n ≤ k by omega) (show 0 ≤ n by omega)
            have h2 := Int.mul_le_mul_of_nonneg_right (show a ≤ n - 1 by omega) (show 0 ≤ b by omega)
            have h3 := Int.mul_le_mul_of_nonneg_left (show b ≤ n - 1 by omega) (show 0 ≤ n - 1 by omega)
            have h4 : (n - 1) * (n - 1) = n * n - n - n + 1 := by rw [Int.sub_mul, Int.mul_sub]; omega
            rcases hs with rfl | rfl <;> omega
          exact JCC hn0 hn2 IH hs a0 an a2 b0 bn b2 c0 cn c2 q0 (by omega) q2 (ht k2) (by rw [← ek]; exact e) gac gbc
      · rw [Int.mul_comm]
        refine JCred hn0 hn2 IH b0 bn b2 c0 cn c2 k0 k2 (by rw [Int.mul_comm]; exact e) gb gbc ?_
        intro b1 c1 k1 b10 b1b b12 c10 c1n c12 k10 k12 e1 gb1
        rw [Int.mul_comm]
        exact JC hn0 hn2 IH hs m a b1 c1 k1 (by omega) a0 an a2 b10 (by omega) b12 c10 c1n c12 k10 k12 (by rw [Int.mul_comm]; exact e1) ga gb1
    · refine JCred hn0 hn2 IH a0 an a2 c0 cn c2 k0 k2 e ga gac ?_
      intro a1 c1 k1 a10 a1a a12 c10 c1n c12 k10 k12 e1 ga1
      exact JC hn0 hn2 IH hs m a1 b c1 k1 (by omega) a10 (by omega) a12 b0 bn b2 c10 c1n c12 k10 k12 e1 ga1 gb
theorem JM_odd {n : Int} (hn0 : 0 < n) (hn2 : n % 2 = 1) (IH : ∀ m, 0 < m → m < n → m % 2 = 1 → JOk m) {a b : Int} (a0 : 0 < a) (an : a < n) (a2 : a % 2 = 1) (b0 : 0 < b) (bn : b < n) (b2 : b % 2 = 1) : J (a * b) n = J a n * J b n := by
  by_cases za : J a n = 0
  · have g : Int.gcd a n ≠ 1 := fun g => J_nz hn0 g za
    rw [za, Int.zero_mul]
    by_cases h : J (a * b) n = 0
    · exact h
    · exfalso
      have h1 := J_cop hn0 hn2 h
      have h3 := Int.dvd_gcd (Int.dvd_trans (Int.gcd_dvd_left a n) (Int.dvd_mul_right a b)) (Int.gcd_dvd_right a n)
      rw [h1] at h3
      exact g (Nat.dvd_one.1 h3)
  by_cases zb : J b n = 0
  · have g : Int.gcd b n ≠ 1 := fun g => J_nz hn0 g zb
    rw [zb, Int.mul_zero]
    by_cases h : J (a * b) n = 0
    · exact h
    · exfalso
      have h1 := J_cop hn0 hn2 h
      have h3 := Int.dvd_gcd (Int.dvd_trans (Int.gcd_dvd_left b n) (Int.dvd_mul_left a b)) (Int.gcd_dvd_right b n)
      rw [h1] at h3
      exact g (Nat.dvd_one.1 h3)
  have ga := J_cop hn0 hn2 za
  have gb := J_cop hn0 hn2 zb
  have r0 := Int.emod_nonneg (a * b) (show n ≠ 0 by omega)
  have r1 := Int.emod_lt_of_pos (a * b) hn0
  have e := Int.emod_add_mul_ediv (a * b) n
  have ab := le_mul a0 b0
  have q0 : 0 ≤ a * b / n := Int.ediv_nonneg (by omega) (by omega)
  have rn : a * b % n ≠ 0 := by
    intro h
    have h1 := Int.dvd_of_emod_eq_zero h
    rw [Int.mul_comm] at h1
    have h2 := euclid (by rw [Int.gcd_comm]; exact ga) h1
    have := Int.le_of_dvd b0 h2
    omega
  have o := mul_odd a2 b2
  rw [Int.mul_comm n] at e
  by_cases par : (a * b / n) % 2 = 0
  · have o2 : (a * b / n * n) % 2 = 0 := by rw [Int.mul_emod, par]; simp
    have := JC hn0 hn2 IH (.inl rfl) _ a b (a * b % n) (a * b / n) (Nat.le_refl _) a0 an a2 b0 bn b2 (by omega) r1 (by omega) q0 par (by omega) ga gb
    rw [this, J_mod]
    simp [Ss]
  · have o2 : (a * b / n * n) % 2 = 1 := mul_odd (by omega) hn2
    have := JC hn0 hn2 IH (.inr rfl) _ a b (n - a * b % n) (a * b / n + 1) (Nat.le_refl _) a0 an a2 b0 bn b2 (by omega) (by omega) (by omega) (by omega) (by omega) (by rw [Int.add_mul]; omega) ga gb
    rw [this]
    have h1 : J (n - a * b % n) n = em n * J (a * b) n := by
      rw [← JN hn0 hn2 IH]
      refine J_congr ?_
      rw [show -(a * b) = (n - a * b % n) + (-(a * b / n + 1)) * n by rw [Int.neg_mul, Int.add_mul]; omega, Int.add_mul_emod_self_right]
    rw [h1, ← Int.mul_assoc]
    simp only [Ss]
    rw [if_neg (by omega), pm_sq (em_or n), Int.one_mul]
theorem JMul {n : Int} (hn0 : 0 < n) (hn2 : n % 2 = 1) (IH : ∀ m, 0 < m → m < n → m % 2 = 1 → JOk m) (a b : Int) : J (a * b) n = J a n * J b n := by
  by_cases h1 : n = 1
  · subst h1; rw [J_bot1, J_bot1, J_bot1]; rfl
  have tt := JT hn0 hn2 IH
  have ea : J (a * b) n = J (a % n * (b % n)) n := J_congr (Int.mul_emod a b n)
  have a0 := Int.emod_nonneg a (show n ≠ 0 by omega)
  have a1 := Int.emod_lt_of_pos a hn0
  have b0 := Int.emod_nonneg b (show n ≠ 0 by omega)
  have b1 := Int.emod_lt_of_pos b hn0
  rw [ea, ← J_mod a, ← J_mod b]
  generalize a % n = x at *
  generalize b % n = y at *
  by_cases zx : x = 0
  · subst zx; rw [Int.zero_mul, J_zero, if_neg h1, Int.zero_mul]
  by_cases zy : y = 0
  · subst zy; rw [Int.mul_zero, J_zero, if_neg h1, Int.mul_zero]
  obtain ⟨k, c, e, c0, c2, cle, _⟩ := odd_part _ x (by omega) (Nat.le_refl _)
  obtain ⟨l, d, e2, d0, d2, dle, _⟩ := odd_part _ y (by omega) (Nat.le_refl _)
  rw [e, e2, show pw 2 k * c * (pw 2 l * d) = pw 2 k * (pw 2 l * (c * d)) by ac_rfl, JOk.tp tt, JOk.tp tt, JOk.tp tt, JOk.tp tt, JM_odd hn0 hn2 IH c0 (by omega) c2 d0 (by omega) d2]
  ac_rfl
theorem J_okN : ∀ (m : Nat) (n : Int), n.toNat ≤ m → 0 < n → n % 2 = 1 → JOk n
  | 0, n, h, h0, _ => by omega
  | m + 1, n, h, h0, h2 => by
    have IH : ∀ x, 0 < x → x < n → x % 2 = 1 → JOk x := fun x x0 xn x2 => J_okN m x (by omega) x0 x2
    exact ⟨JT h0 h2 IH, JN h0 h2 IH, JMul h0 h2 IH⟩
/-- The symbol is multiplicative above and below, and knows the signs of -1 and 2. -/
theorem J_ok {n : Int} (h0 : 0 < n) (h2 : n % 2 = 1) : JOk n := J_okN _ n (Nat.le_refl _) h0 h2
theorem J_bot {a b : Int} (ha0 : 0 < a) (ha2 : a % 2 = 1) (hb0 : 0 < b) (hb2 : b % 2 = 1) (x : Int) : J x (a * b) = J x a * J x b :=
  JB ha0 ha2 hb0 hb2 (fun m h _ h2 => J_ok h h2) x
end Go.Proofs.Ytfcndlagnhaafaa

/-! Hilbert's symbol: bilinear, symmetric, 1 at (a, -a). Plain laws. -/
namespace Go.Proofs.Ytfcndlagnhaafaa
open Go.RowKit
set_option linter.unusedSimpArgs false
set_option linter.unusedVariables false
set_option maxRecDepth 100000

theorem tmod0_dvd {a p : Int} : a.tmod p = 0 ↔ p ∣ a := ⟨Int.dvd_of_tmod_eq_zero, Int.tmod_eq_zero_of_dvd⟩
theorem expo_dec {p : Int} (h1 : 2 ≤ p) : ∀ (k : Nat) (a : Int), a ≠ 0 → a.natAbs ≤ k → a = pw p (expo p a).toNat * rest p a
  | 0, a, h, hk => by omega
  | k + 1, a, h, hk => by
    by_cases hm : a.tmod p = 0
    · obtain ⟨e1, e2⟩ := expo_yes ⟨h1, h, hm⟩
      have hl := tdiv_less h1 h hm
      have h0 := (expo_bd h1 _ _ (tdiv_ne h hm) (Nat.le_refl _)).1
      rw [e1, e2, show (expo p (a.tdiv p) + 1).toNat = (expo p (a.tdiv p)).toNat + 1 by omega]
      simp only [pw]
      rw [Int.mul_assoc, ← expo_dec h1 k _ (tdiv_ne h hm) (by omega)]
      have := Int.mul_tdiv_add_tmod a p
      omega
    · obtain ⟨e1, e2⟩ := expo_no (p := p) hm
      rw [e1, e2]
      simp [pw]
theorem pw_ne {p : Int} (h1 : 2 ≤ p) : ∀ k, pw p k ≠ 0
  | 0 => by simp [pw]
  | k + 1 => by simp only [pw]; exact Int.mul_ne_zero (by omega) (pw_ne h1 k)
theorem pw_add (p : Int) (k : Nat) : ∀ l, pw p (k + l) = pw p k * pw p l
  | 0 => by simp [pw]
  | l + 1 => by
    show pw p (k + l + 1) = _
    simp only [pw, pw_add p k l]
    ac_rfl
theorem expo_unique {p r : Int} (h1 : 2 ≤ p) (hr : ¬ p ∣ r) : ∀ (e : Nat), expo p (pw p e * r) = e ∧ rest p (pw p e * r) = r
  | 0 => by
    simp only [pw, Int.one_mul]
    obtain ⟨e1, e2⟩ := expo_no (p := p) (a := r) (fun h => hr (tmod0_dvd.1 h))
    exact ⟨e1, e2⟩
  | e + 1 => by
    obtain ⟨i1, i2⟩ := expo_unique h1 hr e
    have hr0 : r ≠ 0 := by intro h; subst h; exact hr (Int.dvd_zero p)
    have hne : p * pw p e * r ≠ 0 := Int.mul_ne_zero (Int.mul_ne_zero (by omega) (pw_ne h1 e)) hr0
    have hm : (p * pw p e * r).tmod p = 0 := tmod0_dvd.2 ⟨pw p e * r, Int.mul_assoc ..⟩
    obtain ⟨e1, e2⟩ := expo_yes ⟨h1, hne, hm⟩
    have ht : (p * pw p e * r).tdiv p = pw p e * r := by rw [Int.mul_assoc, Int.mul_tdiv_cancel_left _ (by omega)]
    simp only [pw]
    rw [e1, e2, ht, i1, i2]
    exact ⟨by omega, rfl⟩
theorem rest_nd {p a : Int} (h1 : 2 ≤ p) (h : a ≠ 0) : ¬ p ∣ rest p a := fun hd => (expo_bd h1 _ a h (Nat.le_refl _)).2.2.2.2 (tmod0_dvd.2 hd)
theorem prime_two {p : Int} (hp : prime p = true) : 2 ≤ p := (prime_iff.1 hp).1
theorem prime_cop {p a : Int} (hp : prime p = true) (h : ¬ p ∣ a) : Int.gcd p a = 1 := by
  have h2 := prime_two hp
  have r0 := Int.emod_nonneg a (show p ≠ 0 by omega)
  have r1 := Int.emod_lt_of_pos a (show 0 < p by omega)
  have rn : a % p ≠ 0 := fun e => h (Int.dvd_of_emod_eq_zero e)
  have g := prime_gcd hp (a := a % p) (by omega) r1
  have l := Int.gcd_dvd_left p a
  have r := Int.gcd_dvd_right p a
  have r2 : ((Int.gcd p a : Nat) : Int) ∣ a % p := by
    rw [Int.emod_def]
    exact Int.dvd_sub r (Int.dvd_trans l (Int.dvd_mul_right p _))
  have := Int.dvd_gcd r2 l
  rw [g] at this
  exact Nat.dvd_one.1 this
theorem prime_mul {p a b : Int} (hp : prime p = true) (ha : ¬ p ∣ a) (hb : ¬ p ∣ b) : ¬ p ∣ a * b :=
  fun h => ha (euclid (prime_cop hp hb) h)
/-- How often p divides a product, and the rest. -/
theorem expo_mul {p a b : Int} (hp : prime p = true) (ha : a ≠ 0) (hb : b ≠ 0) : expo p (a * b) = expo p a + expo p b ∧ rest p (a * b) = rest p a * rest p b := by
  have h2 := prime_two hp
  have a1 := (expo_bd h2 _ a ha (Nat.le_refl _)).1
  have b1 := (expo_bd h2 _ b hb (Nat.le_refl _)).1
  have u := expo_unique h2 (prime_mul hp (rest_nd h2 ha) (rest_nd h2 hb)) ((expo p a).toNat + (expo p b).toNat)
  have e : pw p ((expo p a).toNat + (expo p b).toNat) * (rest p a * rest p b) = a * b := by
    rw [pw_add, show pw p (expo p a).toNat * pw p (expo p b).toNat * (rest p a * rest p b) = (pw p (expo p a).toNat * rest p a) * (pw p (expo p b).toNat * rest p b) by ac_rfl, ← expo_dec h2 _ a ha (Nat.le_refl _), ← expo_dec h2 _ b hb (Nat.le_refl _)]
  rw [e] at u
  exact ⟨by omega, u.2⟩
theorem expo_neg {p a : Int} (hp : prime p = true) (ha : a ≠ 0) : expo p (-a) = expo p a ∧ rest p (-a) = -rest p a := by
  have h2 := prime_two hp
  have a1 := (expo_bd h2 _ a ha (Nat.le_refl _)).1
  have u := expo_unique h2 (r := -rest p a) (fun h => rest_nd h2 ha ((Int.dvd_neg).1 h)) (expo p a).toNat
  have e : pw p (expo p a).toNat * -rest p a = -a := by rw [Int.mul_neg, ← expo_dec h2 _ a ha (Nat.le_refl _)]
  rw [e] at u
  exact ⟨by omega, u.2⟩

/-- A place: 0, or a prime. -/
def Pl (p : Int) : Prop := p = 0 ∨ prime p = true
theorem prime_odd {p : Int} (hp : prime p = true) (h : p ≠ 2) : p % 2 = 1 := by
  have h2 := prime_two hp
  have := prime_nd hp (d := 2) (by omega) (by omega)
  omega
theorem hS_add (x y : Int) : hS (x + y) = hS x * hS y := by
  unfold hS
  have hx : x % 2 = 0 ∨ x % 2 = 1 := by omega
  have hy : y % 2 = 0 ∨ y % 2 = 1 := by omega
  rcases hx with e | e <;> rcases hy with f | f <;> rw [e, f, Int.add_emod, e, f] <;> rfl
theorem hS_cg {x y : Int} (h : x % 2 = y % 2) : hS x = hS y := by unfold hS; rw [h]
def chkO : Bool := od.all fun a => od.all fun b => (hO (a * b % 8) % 2 == (hO a + hO b) % 2) && (hE (a * b % 8) % 2 == (hE a + hE b) % 2)
theorem chkO_true : chkO = true := by decide +kernel
theorem hO_mod (n : Int) : hO n = hO (n % 8) := by unfold hO; rw [Int.emod_emod_of_dvd n (by decide)]
theorem hE_mod (n : Int) : hE n = hE (n % 8) := by unfold hE; rw [Int.emod_emod_of_dvd n (by decide)]
theorem hO_mul {a b : Int} (ha : a % 2 = 1) (hb : b % 2 = 1) : hO (a * b) % 2 = (hO a + hO b) % 2 ∧ hE (a * b) % 2 = (hE a + hE b) % 2 := by
  have h := chkO_true
  simp only [chkO, List.all_eq_true, beq_iff_eq, Bool.and_eq_true] at h
  have h := h (a % 8) (odd8 ha) (b % 8) (odd8 hb)
  rw [hO_mod, hE_mod, Int.mul_emod, hO_mod a, hO_mod b, hE_mod a, hE_mod b]
  exact h
theorem par_ml {x y z : Int} (h : y % 2 = z % 2) : (x * y) % 2 = (x * z) % 2 := by rw [Int.mul_emod, h, ← Int.mul_emod]
theorem J_rest {p a : Int} (hp : prime p = true) (ho : p % 2 = 1) (ha : a ≠ 0) : J (rest p a) p = 1 ∨ J (rest p a) p = -1 :=
  J_pm (J_nz (by have := prime_two hp; omega) (by rw [Int.gcd_comm]; exact prime_cop hp (rest_nd (prime_two hp) ha)))
theorem hil_symm (a b p : Int) : hil a b p = hil b a p := by
  unfold hil
  split
  · simp only [And.comm]
  split
  · congr 1
    rw [Int.mul_comm (hO (rest p a))]
    omega
  · rw [Int.mul_comm (expo p a)]
    ac_rfl
theorem odd_rest {a : Int} (ha : a ≠ 0) : rest 2 a % 2 = 1 := by
  have := rest_nd (p := 2) (by omega) ha
  omega
theorem mul_neg_iff {b c : Int} (hb : b ≠ 0) (hc : c ≠ 0) : b * c < 0 ↔ (b < 0 ∧ 0 < c ∨ 0 < b ∧ c < 0) := by
  rcases Int.lt_or_gt_of_ne hb with h | h <;> rcases Int.lt_or_gt_of_ne hc with g | g
  · have := Int.mul_pos_of_neg_of_neg h g; omega
  · have := Int.mul_neg_of_neg_of_pos h g; omega
  · have := Int.mul_neg_of_pos_of_neg h g; omega
  · have := Int.mul_pos h g; omega
theorem prime2 : prime 2 = true := prime_iff.2 ⟨by omega, fun d h1 h2 => by
  have := Int.mul_le_mul_of_nonneg_right h1 (show 0 ≤ d by omega)
  omega⟩
theorem hil_mul {a b c p : Int} (hp : Pl p) (ha : a ≠ 0) (hb : b ≠ 0) (hc : c ≠ 0) : hil a (b * c) p = hil a b p * hil a c p := by
  rcases hp with rfl | hp
  · unfold hil
    simp only [if_true, mul_neg_iff hb hc]
    rcases Int.lt_or_gt_of_ne ha with h | h <;> rcases Int.lt_or_gt_of_ne hb with g | g <;> rcases Int.lt_or_gt_of_ne hc with f | f
    all_goals (repeat' (first | rw [if_pos (by omega)] | rw [if_neg (by omega)]))
    all_goals rfl
  obtain ⟨m1, m2⟩ := expo_mul hp hb hc
  have h2 := prime_two hp
  by_cases e2 : p = 2
  · subst e2
    unfold hil
    simp only [if_true, m1, m2, show (2 : Int) ≠ 0 by omega, if_false]
    rw [← hS_add]
    apply hS_cg
    obtain ⟨o1, o2⟩ := hO_mul (odd_rest hb) (odd_rest hc)
    have q1 := par_ml (x := hO (rest 2 a)) o1
    have q2 := par_ml (x := expo 2 a) o2
    rw [Int.mul_add] at q1 q2
    rw [Int.add_mul]
    omega
  · have ho := prime_odd hp e2
    have hm := (J_ok (n := p) (by omega) ho).m
    rw [hil_p (by omega) e2, hil_p (by omega) e2, hil_p (by omega) e2, hS_par ho, hS_par ho, hS_par ho, m1, m2, hm]
    have x1 := J_rest hp ho ha
    have x2 := J_rest hp ho hb
    have x3 := J_rest hp ho hc
    generalize J (rest p a) p = x at *
    generalize J (rest p b) p = y at *
    generalize J (rest p c) p = z at *
    have k1 : expo p a % 2 = 0 ∨ expo p a % 2 = 1 := by omega
    have k2 : expo p b % 2 = 0 ∨ expo p b % 2 = 1 := by omega
    have k3 : expo p c % 2 = 0 ∨ expo p c % 2 = 1 := by omega
    have k4 : (expo p b + expo p c) % 2 = (expo p b % 2 + expo p c % 2) % 2 := by omega
    have k5 : p % 4 = 1 ∨ p % 4 = 3 := by omega
    rw [k4]
    rcases k1 with e | e <;> rcases k2 with f | f <;> rcases k3 with g | g <;> rcases k5 with d | d <;> rw [e, f, g, d] <;>
      rcases x1 with rfl | rfl <;> rcases x2 with rfl | rfl <;> rcases x3 with rfl | rfl <;> rfl
theorem hil_neg {a p : Int} (hp : Pl p) (ha : a ≠ 0) : hil a (-a) p = 1 := by
  rcases hp with rfl | hp
  · unfold hil
    rw [if_pos rfl, if_neg (by omega)]
  obtain ⟨m1, m2⟩ := expo_neg hp ha
  have h2 := prime_two hp
  by_cases e2 : p = 2
  · subst e2
    unfold hil
    simp only [if_true, m1, m2, show (2 : Int) ≠ 0 by omega, if_false]
    have o := odd_rest ha
    generalize rest 2 a = u at *
    have e3 : hO u * hO (-u) = 0 := by
      unfold hO
      rcases (show u % 4 = 1 ∨ u % 4 = 3 by omega) with e | e
      · rw [e]; simp
      · rw [show -u % 4 = 1 by omega]; simp
    have e4 : hE (-u) = hE u := by
      unfold hE
      by_cases h : u % 8 = 3 ∨ u % 8 = 5
      · rw [if_pos h, if_pos (by omega)]
      · rw [if_neg h, if_neg (by omega)]
    rw [e3, e4]
    unfold hS
    omega
  · have ho := prime_odd hp e2
    have hm := (J_ok (n := p) (by omega) ho).ng
    rw [hil_p (by omega) e2, hS_par ho, m1, m2, hm]
    have x1 := J_rest hp ho ha
    generalize J (rest p a) p = x at *
    unfold em
    have k1 : expo p a % 2 = 0 ∨ expo p a % 2 = 1 := by omega
    have k5 : p % 4 = 1 ∨ p % 4 = 3 := by omega
    rcases k1 with e | e <;> rcases k5 with d | d <;> rw [e, d] <;> rcases x1 with rfl | rfl <;> rfl

end Go.Proofs.Ytfcndlagnhaafaa

/-! The product of Hilbert's symbols over all places. Plain laws. -/
namespace Go.Proofs.Ytfcndlagnhaafaa
open Go.RowKit
set_option linter.unusedSimpArgs false
set_option linter.unusedVariables false
set_option maxRecDepth 100000

theorem hil_pm {a b p : Int} (hp : Pl p) (ha : a ≠ 0) (hb : b ≠ 0) : hil a b p = 1 ∨ hil a b p = -1 := by
  rcases hp with rfl | hp
  · unfold hil; simp only [if_true]; split <;> simp
  have h2 := prime_two hp
  by_cases e2 : p = 2
  · subst e2
    unfold hil
    simp only [if_true, show (2 : Int) ≠ 0 by omega, if_false]
    exact hS_or _
  · rw [hil_p (by omega) e2]
    have ho := prime_odd hp e2
    refine pm_mul (pm_mul (hS_or _) ?_) ?_
    · split
      · exact J_rest hp ho hb
      · exact .inl rfl
    · split
      · exact J_rest hp ho ha
      · exact .inl rfl

def PR (f : Int → Int) : List Int → Int
  | [] => 1
  | p :: l => f p * PR f l
theorem PR_one {f : Int → Int} : ∀ {l : List Int}, (∀ p ∈ l, f p = 1) → PR f l = 1
  | [], _ => rfl
  | p :: l, h => by
    simp only [PR]
    rw [h p (by simp), PR_one (fun q hq => h q (by simp [hq]))]; rfl
theorem PR_congr {f g : Int → Int} : ∀ {l : List Int}, (∀ p ∈ l, f p = g p) → PR f l = PR g l
  | [], _ => rfl
  | p :: l, h => by
    simp only [PR]
    rw [h p (by simp), PR_congr (fun q hq => h q (by simp [hq]))]
theorem PR_mul {f g h : Int → Int} : ∀ {l : List Int}, (∀ p ∈ l, f p = g p * h p) → PR f l = PR g l * PR h l
  | [], _ => rfl
  | p :: l, e => by
    simp only [PR]
    rw [e p (by simp), PR_mul (fun q hq => e q (by simp [hq]))]
    ac_rfl
theorem PR_pm {f : Int → Int} : ∀ {l : List Int}, (∀ p ∈ l, f p = 1 ∨ f p = -1) → PR f l = 1 ∨ PR f l = -1
  | [], _ => .inl rfl
  | p :: l, h => by
    simp only [PR]
    exact pm_mul (h p (by simp)) (PR_pm (fun q hq => h q (by simp [hq])))
def wo (f : Int → Int) (x p : Int) : Int := if p = x then 1 else f p
theorem PR_split {f : Int → Int} (x : Int) : ∀ {l : List Int}, l.Nodup → x ∈ l → PR f l = f x * PR (wo f x) l
  | [], _, h => by cases h
  | p :: l, hn, h => by
    obtain ⟨h1, h2⟩ := List.nodup_cons.1 hn
    simp only [PR]
    by_cases e : p = x
    · subst e
      have e1 : wo f p p = 1 := by unfold wo; rw [if_pos rfl]
      rw [e1, Int.one_mul]
      congr 1
      refine PR_congr fun q hq => ?_
      have hqp : q ≠ p := fun e => h1 (e ▸ hq)
      unfold wo
      rw [if_neg hqp]
    · have hx : x ∈ l := by
        rcases List.mem_cons.1 h with h | h
        · exact absurd h.symm e
        · exact h
      have e1 : wo f x p = f p := by unfold wo; rw [if_neg e]
      rw [PR_split x h2 hx, e1]
      ac_rfl

/-- A list of places that holds 0 and 2. -/
structure SOk (S : List Int) : Prop where
  nd : S.Nodup
  pl : ∀ p ∈ S, Pl p
  z : (0 : Int) ∈ S
  two : (2 : Int) ∈ S
theorem expo_ndv {p a : Int} (h : ¬ p ∣ a) : expo p a = 0 ∧ rest p a = a := expo_no (fun e => h (tmod0_dvd.1 e))
theorem expo_self {p : Int} (hp : prime p = true) : expo p p = 1 ∧ rest p p = 1 := by
  have h2 := prime_two hp
  have u := expo_unique (p := p) (r := 1) h2 (fun h => by have := Int.le_of_dvd (by omega) h; omega) 1
  simpa [pw] using u
/-- Where neither number is divided, the symbol is 1. -/
theorem hil_triv {a b p : Int} (hp : prime p = true) (h2 : p ≠ 2) (ha : ¬ p ∣ a) (hb : ¬ p ∣ b) : hil a b p = 1 := by
  have := prime_two hp
  rw [hil_p (by omega) h2, (expo_ndv ha).1, (expo_ndv hb).1]
  simp [hS]
theorem prime_dvd {p q : Int} (hp : prime p = true) (hq : prime q = true) (h : p ∣ q) : p = q := by
  have h2 := prime_two hp
  have h3 := prime_two hq
  have hle := Int.le_of_dvd (by omega) h
  by_cases e : p = q
  · exact e
  · exact absurd (Int.emod_eq_zero_of_dvd h) (prime_nd hq h2 (by omega))
theorem nd_one {p : Int} (hp : prime p = true) : ¬ p ∣ 1 := fun h => by
  have := prime_two hp
  have := Int.le_of_dvd (by omega) h
  omega
theorem nd_neg1 {p : Int} (hp : prime p = true) : ¬ p ∣ -1 := fun h => nd_one hp ((Int.dvd_neg).1 h)
theorem hil2 {a b : Int} : hil a b 2 = hS (hO (rest 2 a) * hO (rest 2 b) + expo 2 a * hE (rest 2 b) + expo 2 b * hE (rest 2 a)) := by
  unfold hil
  rw [if_neg (by omega), if_pos rfl]
theorem ndv2 {q : Int} (hq : q % 2 = 1) : ¬ (2 : Int) ∣ q := by omega
theorem hS_em {q : Int} (hq : q % 2 = 1) : hS (hO q) = em q := by
  unfold hS hO em
  rcases (show q % 4 = 1 ∨ q % 4 = 3 by omega) with e | e <;> rw [e] <;> rfl
theorem hS_two {q : Int} (hq : q % 2 = 1) : hS (hE q) = two q := by
  unfold hS hE two
  rcases (show q % 8 = 1 ∨ q % 8 = 3 ∨ q % 8 = 5 ∨ q % 8 = 7 by omega) with e | e | e | e <;> rw [e] <;> rfl
theorem hS_sg {q r : Int} (hq : q % 2 = 1) (hr : r % 2 = 1) : hS (hO q * hO r) = sg q r := by
  unfold hS hO sg
  rcases (show q % 4 = 1 ∨ q % 4 = 3 by omega) with e | e <;> rcases (show r % 4 = 1 ∨ r % 4 = 3 by omega) with f | f <;> rw [e, f] <;> rfl

theorem P_m1m1 {S : List Int} (h : SOk S) : PR (hil (-1) (-1)) S = 1 := by
  rw [PR_split 0 h.nd h.z, PR_split 2 h.nd h.two, PR_one]
  · have e1 : wo (hil (-1) (-1)) 0 2 = hil (-1) (-1) 2 := by unfold wo; rw [if_neg (by omega)]
    rw [e1, hil2, (expo_ndv (p := 2) (a := -1) (by omega)).1, (expo_ndv (p := 2) (a := -1) (by omega)).2]
    unfold hil
    simp [hS, hO]
  · intro p hp
    unfold wo
    split
    · rfl
    split
    · rfl
    rcases h.pl p hp with h0 | h0
    · contradiction
    · exact hil_triv h0 ‹_› (nd_neg1 h0) (nd_neg1 h0)
theorem P_m12 {S : List Int} (h : SOk S) : PR (hil (-1) 2) S = 1 := by
  have z : hil (-1) 2 0 = 1 := by unfold hil; simp
  have w : hil (-1) 2 2 = 1 := by
    rw [hil2, (expo_ndv (p := 2) (a := -1) (by omega)).1, (expo_ndv (p := 2) (a := -1) (by omega)).2, (expo_self prime2).1, (expo_self prime2).2]
    simp [hS, hO, hE]
  refine PR_one fun p hp => ?_
  rcases h.pl p hp with rfl | h0
  · exact z
  by_cases e : p = 2
  · rw [e]; exact w
  · exact hil_triv h0 e (nd_neg1 h0) (fun hd => e (prime_dvd h0 prime2 hd))
theorem P_two {S : List Int} {a q : Int} (h : SOk S) (hq : prime q = true) (qS : q ∈ S) (q2 : q ≠ 2) (z : hil a q 0 = 1) (w : hil a q 2 * hil a q q = 1)
    (o : ∀ p, prime p = true → p ≠ 2 → p ≠ q → ¬ p ∣ a) : PR (hil a q) S = 1 := by
  rw [PR_split 2 h.nd h.two, PR_split q h.nd qS, PR_one]
  · have e1 : wo (hil a q) 2 q = hil a q q := by unfold wo; rw [if_neg q2]
    rw [e1, Int.mul_one]; exact w
  · intro p hp
    unfold wo
    split
    · rfl
    split
    · rfl
    rcases h.pl p hp with rfl | h0
    · exact z
    · exact hil_triv h0 ‹_› (o p h0 ‹_› ‹_›) (fun hd => absurd (prime_dvd h0 hq hd) ‹_›)
theorem hil_at {a q : Int} (hq : prime q = true) (q2 : q ≠ 2) (ha : ¬ q ∣ a) : hil a q q = J a q := by
  have := prime_two hq
  rw [hil_p (by omega) q2, (expo_ndv ha).1, (expo_ndv ha).2, (expo_self hq).1, (expo_self hq).2]
  simp [hS]
theorem P_m1q {S : List Int} {q : Int} (h : SOk S) (hq : prime q = true) (qS : q ∈ S) (q2 : q ≠ 2) : PR (hil (-1) q) S = 1 := by
  have hp2 := prime_two hq
  have ho := prime_odd hq q2
  refine P_two h hq qS q2 ?_ ?_ (fun p hp _ _ => nd_neg1 hp)
  · unfold hil; rw [if_pos rfl, if_neg (by omega)]
  · rw [hil_at hq q2 (nd_neg1 hq), hil2, (expo_ndv (p := 2) (a := -1) (by omega)).1, (expo_ndv (p := 2) (a := -1) (by omega)).2, (expo_ndv (ndv2 ho)).1, (expo_ndv (ndv2 ho)).2,
      (J_ok (by omega) ho).ng, J_one (by omega), Int.mul_one, Int.zero_mul, Int.zero_mul, Int.add_zero, Int.add_zero, show hO (-1) = 1 by rfl, Int.one_mul, hS_em ho]
    exact pm_sq (em_or q)
theorem P_2q {S : List Int} {q : Int} (h : SOk S) (hq : prime q = true) (qS : q ∈ S) (q2 : q ≠ 2) : PR (hil 2 q) S = 1 := by
  have hp2 := prime_two hq
  have ho := prime_odd hq q2
  refine P_two h hq qS q2 ?_ ?_ (fun p hp p2 _ hd => p2 (prime_dvd hp prime2 hd))
  · unfold hil; rw [if_pos rfl, if_neg (by omega)]
  · rw [hil_at hq q2 (fun hd => q2 (prime_dvd hq prime2 hd)), hil2, (expo_self prime2).1, (expo_self prime2).2, (expo_ndv (ndv2 ho)).1, (expo_ndv (ndv2 ho)).2,
      show (2 : Int) = 2 * 1 by rfl, (J_ok (by omega) ho).t, J_one (by omega), Int.mul_one, Int.zero_mul, Int.one_mul, show hO 1 = 0 by rfl, Int.zero_mul, Int.add_zero, Int.zero_add, hS_two ho]
    exact pm_sq (two_or q)
theorem P_qr {S : List Int} {q r : Int} (h : SOk S) (hq : prime q = true) (qS : q ∈ S) (q2 : q ≠ 2) (hr : prime r = true) (rS : r ∈ S) (r2 : r ≠ 2) (ne : q ≠ r) : PR (hil q r) S = 1 := by
  have hq2 := prime_two hq
  have hqo := prime_odd hq q2
  have hr2 := prime_two hr
  have hro := prime_odd hr r2
  have nqr : ¬ q ∣ r := fun hd => ne (prime_dvd hq hr hd)
  have nrq : ¬ r ∣ q := fun hd => ne (prime_dvd hr hq hd).symm
  rw [PR_split 2 h.nd h.two, PR_split q h.nd qS, PR_split r h.nd rS, PR_one]
  · have e1 : wo (hil q r) 2 q = hil q r q := by unfold wo; rw [if_neg q2]
    have e2 : wo (wo (hil q r) 2) q r = hil q r r := by unfold wo; rw [if_neg (fun e => ne e.symm), if_neg r2]
    rw [e1, e2, hil_at hr r2 nrq, hil_symm q r q, hil_at hq q2 nqr, hil2, (expo_ndv (ndv2 hqo)).1, (expo_ndv (ndv2 hqo)).2, (expo_ndv (ndv2 hro)).1, (expo_ndv (ndv2 hro)).2,
      Int.zero_mul, Int.zero_mul, Int.add_zero, Int.add_zero, hS_sg hqo hro, J_rec (a := q) (n := r) (by omega) hqo (by omega) hro]
    have x1 := J_pm (J_nz (a := r) (n := q) (by omega) (by rw [Int.gcd_comm]; exact prime_cop hq nqr))
    have x2 := sg_or q r
    rcases x1 with e | e <;> rcases x2 with f | f <;> rw [e, f] <;> rfl
  · intro p hp
    unfold wo
    split
    · rfl
    split
    · rfl
    split
    · rfl
    rcases h.pl p hp with rfl | h0
    · unfold hil; rw [if_pos rfl, if_neg (by omega)]
    · exact hil_triv h0 ‹_› (fun hd => absurd (prime_dvd h0 hq hd) ‹_›) (fun hd => absurd (prime_dvd h0 hr hd) ‹_›)

theorem P_symm {S : List Int} (a b : Int) : PR (hil a b) S = PR (hil b a) S := PR_congr fun p _ => hil_symm a b p
theorem P_mul {S : List Int} {a b c : Int} (h : SOk S) (ha : a ≠ 0) (hb : b ≠ 0) (hc : c ≠ 0) : PR (hil a (b * c)) S = PR (hil a b) S * PR (hil a c) S :=
  PR_mul fun p hp => hil_mul (h.pl p hp) ha hb hc
theorem P_pm {S : List Int} {a b : Int} (h : SOk S) (ha : a ≠ 0) (hb : b ≠ 0) : PR (hil a b) S = 1 ∨ PR (hil a b) S = -1 :=
  PR_pm fun p hp => hil_pm (h.pl p hp) ha hb
theorem P_qq {S : List Int} {q : Int} (h : SOk S) (hq : q ≠ 0) (e : PR (hil q (-1)) S = 1) : PR (hil q q) S = 1 := by
  have h1 := P_mul (S := S) (a := q) (b := -1) (c := -q) h hq (by omega) (by omega)
  rw [show -1 * -q = q by omega, e, Int.one_mul] at h1
  rw [h1]
  exact PR_one fun p hp => hil_neg (h.pl p hp) hq
def Gen (S : List Int) (g : Int) : Prop := g = -1 ∨ prime g = true ∧ g ∈ S
theorem P_gen {S : List Int} {g k : Int} (h : SOk S) (hg : Gen S g) (hk : Gen S k) : PR (hil g k) S = 1 := by
  rcases hg with rfl | ⟨g1, g2⟩ <;> rcases hk with rfl | ⟨k1, k2⟩
  · exact P_m1m1 h
  · by_cases e : k = 2
    · subst e; exact P_m12 h
    · exact P_m1q h k1 k2 e
  · rw [P_symm]
    by_cases e : g = 2
    · subst e; exact P_m12 h
    · exact P_m1q h g1 g2 e
  · have hg2 := prime_two g1
    by_cases ek : k = g
    · subst ek
      refine P_qq h (by omega) ?_
      rw [P_symm]
      by_cases e : k = 2
      · subst e; exact P_m12 h
      · exact P_m1q h g1 g2 e
    by_cases e : k = 2
    · subst e
      rw [P_symm]
      exact P_2q h g1 g2 (fun e => ek e.symm)
    by_cases f : g = 2
    · subst f; exact P_2q h k1 k2 e
    · exact P_qr h g1 g2 f k1 k2 e (fun e => ek e.symm)

/-- Each integer but 1, -1 has a prime that divides it. -/
theorem prime_ex : ∀ (m : Nat) (n : Int), n.toNat ≤ m → 2 ≤ n → ∃ q, prime q = true ∧ q ∣ n
  | 0, n, h, h2 => by omega
  | m + 1, n, h, h2 => by
    by_cases hp : prime n = true
    · exact ⟨n, hp, Int.dvd_refl n⟩
    · have : ∃ d, 2 ≤ d ∧ d * d ≤ n ∧ n.tmod d = 0 := by
        apply Classical.byContradiction
        intro hc
        exact hp (prime_iff.2 ⟨h2, fun d h1 h3 h4 => hc ⟨d, h1, h3, h4⟩⟩)
      obtain ⟨d, d1, d2, d3⟩ := this
      have := Int.mul_le_mul_of_nonneg_right d1 (show 0 ≤ d by omega)
      obtain ⟨q, q1, q2⟩ := prime_ex m d (by omega) d1
      exact ⟨q, q1, Int.dvd_trans q2 (tmod0_dvd.1 d3)⟩
theorem gen_ind {S : List Int} {F : Int → Int} (mul : ∀ x y, x ≠ 0 → y ≠ 0 → F (x * y) = F x * F y) (pm : ∀ x, x ≠ 0 → F x = 1 ∨ F x = -1) (g : ∀ x, Gen S x → F x = 1) :
    ∀ (m : Nat) (a : Int), a.natAbs ≤ m → a ≠ 0 → (∀ q, prime q = true → q ∣ a → q ∈ S) → F a = 1
  | 0, a, h, h0, _ => by omega
  | m + 1, a, h, h0, hS => by
    by_cases e1 : a = 1
    · subst e1
      have h1 := mul 1 1 (by omega) (by omega)
      rw [Int.one_mul] at h1
      rcases pm 1 (by omega) with e | e <;> rw [e] at h1 ⊢
      simp at h1
    by_cases e2 : a = -1
    · exact g a (.inl e2)
    obtain ⟨q, q1, q2⟩ := prime_ex _ (a.natAbs : Int) (Nat.le_refl _) (by omega)
    have q3 : q ∣ a := Int.dvd_natAbs.1 q2
    obtain ⟨b, e⟩ := q3
    have hq2 := prime_two q1
    have b0 : b ≠ 0 := by intro hb; subst hb; simp at e; exact h0 e
    have hlt : b.natAbs < a.natAbs := by
      rw [e, Int.natAbs_mul]
      have := Nat.mul_le_mul_right b.natAbs (show 2 ≤ q.natAbs by omega)
      omega
    have hb : F b = 1 := gen_ind mul pm g m b (by omega) b0 (fun r r1 r2 => hS r r1 (by rw [e]; exact Int.dvd_trans r2 (Int.dvd_mul_left q b)))
    rw [e, mul q b (by omega) b0, hb, g q (.inr ⟨q1, hS q q1 ⟨b, e⟩⟩)]; rfl
/-- The product formula. -/
theorem P_all {S : List Int} {a b : Int} (h : SOk S) (ha : a ≠ 0) (hb : b ≠ 0) (sa : ∀ q, prime q = true → q ∣ a → q ∈ S) (sb : ∀ q, prime q = true → q ∣ b → q ∈ S) : PR (hil a b) S = 1 := by
  have gne : ∀ x, Gen S x → x ≠ 0 := by
    rintro x (rfl | ⟨h1, _⟩)
    · omega
    · have := prime_two h1; omega
  refine gen_ind (S := S) (F := fun b => PR (hil a b) S) (fun x y hx hy => P_mul h ha hx hy) (fun x hx => P_pm h ha hx) ?_ _ b (Nat.le_refl _) hb sb
  intro x hx
  show PR (hil a x) S = 1
  rw [P_symm]
  exact gen_ind (S := S) (F := fun b => PR (hil x b) S) (fun y z hy hz => P_mul h (gne x hx) hy hz) (fun y hy => P_pm h (gne x hx) hy) (fun y hy => P_gen h hx hy) _ a (Nat.le_refl _) ha sa
/-- The places where the symbol is -1 are even in number. -/
theorem PR_even {f : Int → Int} : ∀ {l : List Int}, (∀ p ∈ l, f p = 1 ∨ f p = -1) → PR f l = if (l.filter fun p => decide (f p = -1)).length % 2 = 0 then 1 else -1
  | [], _ => rfl
  | p :: l, h => by
    simp only [PR]
    rw [PR_even (l := l) (fun q hq => h q (by simp [hq]))]
    rcases h p (by simp) with e | e
    · rw [e, List.filter_cons_of_neg (by rw [e]; decide), Int.one_mul]
    · rw [e, List.filter_cons_of_pos (by rw [e]; decide), List.length_cons]
      generalize (l.filter fun p => decide (f p = -1)).length = k
      rcases Nat.mod_two_eq_zero_or_one k with e | e
      · rw [if_pos e, if_neg (by omega)]; rfl
      · rw [if_neg (by omega), if_pos (by omega)]; rfl

end Go.Proofs.Ytfcndlagnhaafaa
