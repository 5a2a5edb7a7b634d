/- Jacobi's symbol by steps: plain laws. -/
import Derived.Test.YtfbadfnhnaaeeaaF11
namespace Go.Proofs.Ytfbadfnhnaaeeaa
open Go.RowKit
set_option maxRecDepth 100000

/-- The symbol (2/n). -/
def two (n : Int) : Int := if n % 8 = 1 ∨ n % 8 = 7 then 1 else -1
/-- The sign of the law of reciprocity. -/
def sg (a n : Int) : Int := if a % 4 = 3 ∧ n % 4 = 3 then -1 else 1
/-- The symbol (a/n) for an a from 0 to n - 1, by steps. -/
def jac (a n : Int) : Int := if _h : a ≤ 0 then (if n = 1 then 1 else 0) else if _h2 : a % 2 = 0 then two n * jac (a / 2) n else sg a n * jac (n % a) a
termination_by a.toNat
decreasing_by
  · omega
  · have := Int.emod_lt_of_pos n (show 0 < a by omega); omega
def J (a n : Int) : Int := jac (a % n) n
theorem jac_zero (n : Int) : jac 0 n = if n = 1 then 1 else 0 := by rw [jac]; simp
theorem jac_even {a n : Int} (h : 0 < a) (h2 : a % 2 = 0) : jac a n = two n * jac (a / 2) n := by
  rw [jac, dif_neg (by omega), dif_pos h2]
theorem jac_odd {a n : Int} (h : 0 < a) (h2 : a % 2 ≠ 0) : jac a n = sg a n * jac (n % a) a := by
  rw [jac, dif_neg (by omega), dif_neg h2]
theorem sg_or (a n : Int) : sg a n = 1 ∨ sg a n = -1 := by unfold sg; split <;> simp
theorem two_or (n : Int) : two n = 1 ∨ two n = -1 := by unfold two; split <;> simp
theorem jac_one (n : Int) : jac 1 n = 1 := by
  rw [jac_odd (by omega) (by omega), Int.emod_one, jac_zero]
  have : sg 1 n = 1 := by unfold sg; rw [if_neg (by omega)]
  simp [this]
theorem jac_or (k : Nat) : ∀ a n, a.toNat ≤ k → jac a n = 1 ∨ jac a n = -1 ∨ jac a n = 0 := by
  induction k with
  | zero => intro a n h; rw [jac, dif_pos (by omega)]; split <;> simp
  | succ k ih =>
    intro a n h
    by_cases h0 : a ≤ 0
    · rw [jac, dif_pos h0]; split <;> simp
    by_cases h2 : a % 2 = 0
    · rw [jac_even (by omega) h2]
      rcases two_or n with e | e <;> rcases ih (a / 2) n (by omega) with g | g | g <;> rw [e, g] <;> simp
    · have := Int.emod_lt_of_pos n (show 0 < a by omega)
      rw [jac_odd (by omega) h2]
      rcases sg_or a n with e | e <;> rcases ih (n % a) a (by omega) with g | g | g <;> rw [e, g] <;> simp
theorem J_or (a n : Int) : J a n = 1 ∨ J a n = -1 ∨ J a n = 0 := jac_or _ _ _ (Nat.le_refl _)
theorem J_mod (a n : Int) : J (a % n) n = J a n := by simp [J]
theorem J_small {a n : Int} (h : 0 ≤ a) (h2 : a < n) : J a n = jac a n := by rw [J, Int.emod_eq_of_lt h h2]
theorem jac_gcd (k : Nat) : ∀ a n, a.toNat ≤ k → 0 ≤ a → 0 < n → jac a n = 0 → Int.gcd a n ≠ 1 := by
  induction k with
  | zero =>
    intro a n h h0 hn hj hg
    have : a = 0 := by omega
    subst this
    rw [jac_zero] at hj
    split at hj
    · cases hj
    · simp at hg; omega
  | succ k ih =>
    intro a n h h0 hn hj hg
    by_cases ha : a = 0
    · subst ha
      rw [jac_zero] at hj
      split at hj
      · cases hj
      · simp at hg; omega
    by_cases h2 : a % 2 = 0
    · rw [jac_even (by omega) h2] at hj
      have hj2 : jac (a / 2) n = 0 := by
        rcases two_or n with e | e <;> rw [e] at hj <;> omega
      refine ih (a / 2) n (by omega) (by omega) hn hj2 ?_
      have hd : Int.gcd (a / 2) n ∣ Int.gcd a n := by
        apply Int.dvd_gcd
        · exact Int.dvd_trans (Int.gcd_dvd_left ..) ⟨2, by omega⟩
        · exact Int.gcd_dvd_right ..
      rw [hg] at hd
      exact Nat.dvd_one.1 hd
    · have hlt := Int.emod_lt_of_pos n (show 0 < a by omega)
      have hge := Int.emod_nonneg n (show a ≠ 0 by omega)
      rw [jac_odd (by omega) h2] at hj
      have hj2 : jac (n % a) a = 0 := by
        rcases sg_or a n with e | e <;> rw [e] at hj <;> omega
      refine ih (n % a) a (by omega) hge (by omega) hj2 ?_
      have hd : Int.gcd (n % a) a ∣ Int.gcd a n := by
        apply Int.dvd_gcd
        · exact Int.gcd_dvd_right ..
        · have h1 : ((Int.gcd (n % a) a : Nat) : Int) ∣ n % a := Int.gcd_dvd_left ..
          have h3 : ((Int.gcd (n % a) a : Nat) : Int) ∣ a := Int.gcd_dvd_right ..
          have h4 := Int.mul_ediv_add_emod n a
          have h5 := Int.dvd_add (Int.dvd_trans h3 ⟨n / a, rfl⟩) h1
          rwa [h4] at h5
      rw [hg] at hd
      exact Nat.dvd_one.1 hd

/-! The primes up to a million have a small residue that is no square. -/
def jacF : Nat → Nat → Nat → Bool → Option Bool
  | 0, _, _, _ => none
  | k + 1, a, n, s => match a with
    | 0 => if n = 1 then some s else none
    | a' + 1 => if (a' + 1) % 2 = 0 then jacF k ((a' + 1) / 2) n (xor s (!(Nat.beq (n % 8) 1 || Nat.beq (n % 8) 7))) else jacF k (n % (a' + 1)) (a' + 1) (xor s (Nat.beq ((a' + 1) % 4) 3 && Nat.beq (n % 4) 3))
def sb (s : Bool) : Int := if s then -1 else 1
theorem sb_xor (s t : Bool) : sb (xor s t) = sb s * sb t := by cases s <;> cases t <;> rfl
theorem jacF_jac : ∀ (k a n : Nat) (s t : Bool), jacF k a n s = some t → sb s * jac a n = sb t
  | 0, a, n, s, t, h => by simp [jacF] at h
  | k + 1, 0, n, s, t, h => by
    simp only [jacF] at h
    split at h
    · rename_i h1
      simp only [Option.some.injEq] at h
      subst h h1
      rw [show ((0 : Nat) : Int) = 0 from rfl, jac_zero]
      simp
    · cases h
  | k + 1, a' + 1, n, s, t, h => by
    simp only [jacF] at h
    split at h
    · rename_i h1
      have := jacF_jac k _ _ _ _ h
      rw [← this, jac_even (by omega) (by omega), sb_xor, show (((a' + 1 : Nat) : Int) / 2) = (((a' + 1) / 2 : Nat) : Int) by omega, Int.mul_assoc]
      congr 2
      unfold two sb
      by_cases h8 : n % 8 = 1 ∨ n % 8 = 7
      · rw [if_pos (by omega)]
        rcases h8 with h8 | h8 <;> simp [h8]
      · rw [if_neg (by omega)]
        have e1 : Nat.beq (n % 8) 1 = false := by rw [Bool.eq_false_iff]; intro hh; exact h8 (.inl (Nat.eq_of_beq_eq_true hh))
        have e2 : Nat.beq (n % 8) 7 = false := by rw [Bool.eq_false_iff]; intro hh; exact h8 (.inr (Nat.eq_of_beq_eq_true hh))
        rw [e1, e2]; rfl
    · rename_i h1
      have := jacF_jac k _ _ _ _ h
      rw [← this, jac_odd (by omega) (by omega), sb_xor, show ((n : Int) % ((a' + 1 : Nat) : Int)) = ((n % (a' + 1) : Nat) : Int) by simp, Int.mul_assoc]
      congr 2
      unfold sg sb
      by_cases h8 : (a' + 1) % 4 = 3 ∧ n % 4 = 3
      · rw [if_pos (by omega)]; simp [h8]
      · rw [if_neg (by omega)]; simp; omega
/-- q is found to be no square modulo n. -/
def nr (q n : Nat) : Bool := match jacF 30 (n % q) q (Nat.beq (q % 4) 3 && Nat.beq (n % 4) 3) with
  | some true => true
  | _ => false
theorem nr_J {q n : Nat} (h : nr q n = true) (hq : q % 2 = 1) (hqn : q < n) : J q n = -1 := by
  unfold nr at h
  split at h
  · rename_i hj
    have h1 := jacF_jac _ _ _ _ _ hj
    rw [J_small (by omega) (by omega), jac_odd (by omega) (by omega)]
    rw [show ((n : Int) % (q : Int)) = ((n % q : Nat) : Int) by simp]
    rw [show sg q n = sb (Nat.beq (q % 4) 3 && Nat.beq (n % 4) 3) from ?_, h1]
    · rfl
    · unfold sg sb
      by_cases h8 : q % 4 = 3 ∧ n % 4 = 3
      · rw [if_pos (by omega)]; simp [h8]
      · rw [if_neg (by omega)]; simp; omega
  · cases h
def divF : Nat → Nat → Nat → Bool
  | 0, _, _ => false
  | k + 1, d, n => Nat.blt d n && Nat.beq (n % d) 0 || divF k (d + 1) n
def anyNr (n : Nat) : List Nat → Bool
  | [] => false
  | q :: r => Nat.blt q n && nr q n || anyNr n r
def qs : List Nat := [11, 13, 17, 19, 23, 29, 31, 37, 41, 43]
def chk1 (n : Nat) : Bool := anyNr n qs || Nat.ble n 7 || divF 1000 2 n
def cls : List Nat := [1, 121, 169, 289, 311, 361, 479, 529, 551, 671, 719, 839]
def allC (b : Nat) : List Nat → Bool
  | [] => true
  | r :: l => chk1 (b + r) && allC b l
def allK : Nat → Bool
  | 0 => true
  | k + 1 => allC (840 * k) cls && allK k
def chkR (r : Nat) : Bool := !(Nat.beq (r % 8) 1 || Nat.beq (r % 8) 7) || Nat.beq (r % 3) 0 || Nat.beq (r % 5) 0 || Nat.beq (r % 7) 0 || nr 3 r || nr 5 r || nr 7 r || cls.any (Nat.beq r)
def allR : Nat → Bool
  | 0 => true
  | k + 1 => chkR k && allR k
theorem allK_true : allK 1191 = true := by kernel_rfl
theorem allR_true : allR 840 = true := by kernel_rfl
theorem allR_at : ∀ {m : Nat}, allR m = true → ∀ r, r < m → chkR r = true
  | m + 1, h, r, hr => by
    simp only [allR, Bool.and_eq_true] at h
    by_cases e : r = m
    · subst e; exact h.1
    · exact allR_at h.2 r (by omega)
theorem allC_at : ∀ {l : List Nat} {b : Nat}, allC b l = true → ∀ r, r ∈ l → chk1 (b + r) = true
  | [], _, _, r, h => by cases h
  | x :: l, b, h, r, hr => by
    simp only [allC, Bool.and_eq_true] at h
    rcases List.mem_cons.1 hr with e | e
    · subst e; exact h.1
    · exact allC_at h.2 r e
theorem allK_at : ∀ {m : Nat}, allK m = true → ∀ k, k < m → allC (840 * k) cls = true
  | m + 1, h, k, hk => by
    simp only [allK, Bool.and_eq_true] at h
    by_cases e : k = m
    · subst e; exact h.1
    · exact allK_at h.2 k (by omega)
theorem anyNr_at : ∀ {l : List Nat} {n : Nat}, anyNr n l = true → ∃ q, q ∈ l ∧ q < n ∧ nr q n = true
  | [], _, h => by cases h
  | x :: l, n, h => by
    simp only [anyNr, Bool.or_eq_true, Bool.and_eq_true, Nat.blt_eq] at h
    rcases h with h | h
    · exact ⟨x, by simp, h⟩
    · obtain ⟨q, h1, h2⟩ := anyNr_at h
      exact ⟨q, by simp [h1], h2⟩
theorem divF_at : ∀ {k d n : Nat}, divF k d n = true → 2 ≤ d → ∃ e, 2 ≤ e ∧ e < n ∧ n % e = 0
  | 0, _, _, h, _ => by cases h
  | k + 1, d, n, h, hd => by
    simp only [divF, Bool.or_eq_true, Bool.and_eq_true, Nat.blt_eq, Nat.beq_eq] at h
    rcases h with h | h
    · exact ⟨d, hd, h.1, h.2⟩
    · exact divF_at h (by omega)
theorem prime_nd {p d : Int} (hp : prime p = true) (h2 : 2 ≤ d) (hlt : d < p) : p % d ≠ 0 := by
  intro h
  obtain ⟨h0, h1⟩ := prime_iff.1 hp
  have hmul : d * (p / d) = p := Int.mul_ediv_cancel' (Int.dvd_of_emod_eq_zero h)
  have he : 2 ≤ p / d := by
    rcases Int.lt_or_le (p / d) 2 with hl | hl
    · have : p / d ≤ 1 := by omega
      have := Int.mul_le_mul_of_nonneg_left this (show 0 ≤ d by omega)
      omega
    · exact hl
  by_cases hc : d ≤ p / d
  · refine h1 d h2 ?_ ?_
    · have := Int.mul_le_mul_of_nonneg_left hc (show 0 ≤ d by omega); omega
    · rw [tmod_nonneg' (by omega)]; exact h
  · refine h1 (p / d) he ?_ ?_
    · have := Int.mul_le_mul_of_nonneg_right (show p / d ≤ d by omega) (show 0 ≤ p / d by omega); omega
    · rw [tmod_nonneg' (by omega)]
      exact Int.emod_eq_zero_of_dvd ⟨d, by rw [Int.mul_comm]; exact hmul.symm⟩
theorem prime_gcd {p a : Int} (hp : prime p = true) (h1 : 1 ≤ a) (hlt : a < p) : Int.gcd a p = 1 := by
  have hd1 : ((Int.gcd a p : Nat) : Int) ∣ a := Int.gcd_dvd_left ..
  have hd2 : ((Int.gcd a p : Nat) : Int) ∣ p := Int.gcd_dvd_right ..
  have hle := Int.le_of_dvd (by omega) hd1
  have hpos : 0 < Int.gcd a p := Int.gcd_pos_of_ne_zero_left _ (by omega)
  by_cases h : (2 : Int) ≤ Int.gcd a p
  · exact absurd (Int.emod_eq_zero_of_dvd hd2) (prime_nd hp h (by omega))
  · omega
theorem nr_congr {q n m : Nat} (h : n % q = m % q) (h4 : n % 4 = m % 4) : nr q n = nr q m := by simp only [nr, h, h4]
theorem lnr_ex {p : Int} (hp : prime p = true) (hne : p ≠ 2) (hle : p ≤ 1000000) : ∃ r, 2 ≤ r ∧ r ≤ 43 ∧ r < p ∧ J r p = -1 := by
  have h2 := (prime_iff.1 hp).1
  have hodd : p % 2 ≠ 0 := prime_nd hp (by omega) (by omega)
  by_cases h8 : p % 8 = 3 ∨ p % 8 = 5
  · refine ⟨2, by omega, by omega, by omega, ?_⟩
    rw [J_small (by omega) (by omega), jac_even (by omega) (by omega), show (2 : Int) / 2 = 1 from rfl, jac_one]
    unfold two
    rw [if_neg (by omega)]; rfl
  obtain ⟨n, rfl⟩ : ∃ n : Nat, p = n := ⟨p.toNat, by omega⟩
  have use : ∀ q : Nat, q % 2 = 1 → 3 ≤ q → q ≤ 43 → q < n → nr q n = true → ∃ r : Int, 2 ≤ r ∧ r ≤ 43 ∧ r < n ∧ J r n = -1 := fun q a1 a2 a3 a4 a5 => ⟨q, by omega, by omega, by omega, nr_J a5 a1 a4⟩
  by_cases h7 : n ≤ 7
  · have : n = 7 := by omega
    subst this
    exact use 3 rfl (by omega) (by omega) (by omega) rfl
  have hR := allR_at allR_true (n % 840) (Nat.mod_lt _ (by omega))
  simp only [chkR, Bool.or_eq_true, Bool.not_eq_true', Bool.or_eq_false_iff, Nat.beq_eq] at hR
  rcases hR with ((((((hR | hR) | hR) | hR) | hR) | hR) | hR) | hR
  · exfalso
    obtain ⟨g1, g2⟩ := hR
    have g1 := Nat.ne_of_beq_eq_false g1
    have g2 := Nat.ne_of_beq_eq_false g2
    omega
  · exact absurd (show (n : Int) % 3 = 0 by omega) (prime_nd hp (by omega) (by omega))
  · exact absurd (show (n : Int) % 5 = 0 by omega) (prime_nd hp (by omega) (by omega))
  · exact absurd (show (n : Int) % 7 = 0 by omega) (prime_nd hp (by omega) (by omega))
  · exact use 3 rfl (by omega) (by omega) (by omega) (by rw [← hR]; exact nr_congr (by omega) (by omega))
  · exact use 5 rfl (by omega) (by omega) (by omega) (by rw [← hR]; exact nr_congr (by omega) (by omega))
  · exact use 7 rfl (by omega) (by omega) (by omega) (by rw [← hR]; exact nr_congr (by omega) (by omega))
  · obtain ⟨r, hr, he⟩ := List.any_eq_true.1 hR
    have he : n % 840 = r := Nat.eq_of_beq_eq_true he
    have hc := allC_at (allK_at allK_true (n / 840) (by omega)) r hr
    rw [show 840 * (n / 840) + r = n by omega] at hc
    simp only [chk1, Bool.or_eq_true, Nat.ble_eq] at hc
    rcases hc with (hc | hc) | hc
    · obtain ⟨q, q1, q2, q3⟩ := anyNr_at hc
      have : q % 2 = 1 ∧ 3 ≤ q ∧ q ≤ 43 := by
        simp only [qs, List.mem_cons, List.not_mem_nil, or_false] at q1
        omega
      exact use q this.1 this.2.1 this.2.2 q2 q3
    · omega
    · obtain ⟨d, d1, d2, d3⟩ := divF_at hc (by omega)
      exact absurd (show (n : Int) % d = 0 by omega) (prime_nd hp (by omega) (by omega))
/-- The least a from 2 on whose symbol is -1. -/
noncomputable def lnr (p : Int) : Int := Classical.epsilon fun r => 2 ≤ r ∧ r ≤ 43 ∧ r < p ∧ J r p = -1 ∧ ∀ a, 2 ≤ a → a < r → J a p = 1
theorem least_ex (P : Int → Prop) (k : Nat) : ∀ r : Int, r = 2 + k → P r → ∃ s, 2 ≤ s ∧ s ≤ r ∧ P s ∧ ∀ a, 2 ≤ a → a < s → ¬ P a := by
  induction k using Nat.strongRecOn with
  | ind k ih =>
    intro r hr hP
    by_cases h : ∃ a, 2 ≤ a ∧ a < r ∧ P a
    · obtain ⟨a, h1, h2, h3⟩ := h
      obtain ⟨s, g1, g2, g3⟩ := ih (a - 2).toNat (by omega) a (by omega) h3
      exact ⟨s, g1, by omega, g3⟩
    · exact ⟨r, by omega, by omega, hP, fun a h1 h2 h3 => h ⟨a, h1, h2, h3⟩⟩
theorem lnr_spec {p : Int} (hp : prime p = true) (hne : p ≠ 2) (hle : p ≤ 1000000) : 2 ≤ lnr p ∧ lnr p ≤ 43 ∧ lnr p < p ∧ J (lnr p) p = -1 ∧ ∀ a, 2 ≤ a → a < lnr p → J a p = 1 := by
  obtain ⟨r, h1, h2, h3, h4⟩ := lnr_ex hp hne hle
  obtain ⟨s, g1, g2, g3, g4⟩ := least_ex (fun a => J a p = -1) (r - 2).toNat r (by omega) h4
  refine Classical.epsilon_spec (p := fun r => 2 ≤ r ∧ r ≤ 43 ∧ r < p ∧ J r p = -1 ∧ ∀ a, 2 ≤ a → a < r → J a p = 1) ⟨s, g1, by omega, by omega, g3, fun a a1 a2 => ?_⟩
  rcases J_or a p with e | e | e
  · exact e
  · exact absurd e (g4 a a1 a2)
  · exfalso
    rw [J_small (by omega) (by omega)] at e
    exact jac_gcd _ _ _ (Nat.le_refl _) (by omega) (by omega) e (prime_gcd hp (by omega) (by omega))
end Go.Proofs.Ytfbadfnhnaaeeaa
