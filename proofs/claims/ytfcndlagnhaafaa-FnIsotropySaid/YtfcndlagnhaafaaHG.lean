/- Prime factors; lists of places. -/
import Derived.Test.YtfcndlagnhaafaaF13
namespace Go.Proofs.Ytfcndlagnhaafaa
open Go.RowKit
set_option linter.unusedSimpArgs false
set_option linter.unusedVariables false
set_option maxRecDepth 100000
set_option maxHeartbeats 2000000

theorem ediv_less {d n : Int} (h : 2 ≤ d ∧ 1 ≤ n) (h2 : n % d = 0) : n / d < n ∧ 1 ≤ n / d := by
  have h3 := Int.mul_ediv_add_emod n d
  rw [h2, Int.add_zero] at h3
  have h4 : 1 ≤ n / d := by
    refine Int.not_lt.1 fun hc => ?_
    have := Int.mul_le_mul_of_nonneg_left (show n / d ≤ 0 by omega) (show 0 ≤ d by omega)
    rw [Int.mul_zero] at this
    omega
  have h5 := Int.mul_le_mul_of_nonneg_right (show 2 ≤ d from h.1) (show 0 ≤ n / d by omega)
  omega
/-- Prime factors from d on. -/
def facI (d n : Int) : List Int := if h : 2 ≤ d ∧ 1 ≤ n then (if h2 : n % d = 0 then d :: facI d (n / d) else if h3 : (d + 1) * (d + 1) ≤ n then facI (d + 1) n else if 1 < n then [n] else []) else []
termination_by (n.toNat, (n - d).toNat)
decreasing_by
  · have := ediv_less h h2
    exact Prod.Lex.left _ _ (by omega)
  · have : (d + 1) * 1 ≤ (d + 1) * (d + 1) := Int.mul_le_mul_of_nonneg_left (by omega) (by omega)
    exact Prod.Lex.right _ (by omega)
def facO (d n : Int) : List Int := if d * d ≤ n then facI d n else if 1 < n then [n] else []
theorem facI_yes {d n : Int} (h : 2 ≤ d ∧ 1 ≤ n) (h2 : n % d = 0) : facI d n = d :: facI d (n / d) := by rw [facI, dif_pos h, dif_pos h2]
theorem facI_no {d n : Int} (h : 2 ≤ d ∧ 1 ≤ n) (h2 : ¬ n % d = 0) : facI d n = facO (d + 1) n := by
  rw [facI, dif_pos h, dif_neg h2, facO]
  rfl
def fac (n : Int) : List Int := facO 2 n

def Nd (d n : Int) : Prop := ∀ q, 2 ≤ q → q < d → ¬ n % q = 0
theorem prime_of {x : Int} (h : 2 ≤ x) (hn : ∀ q, 2 ≤ q → q * q ≤ x → ¬ x % q = 0) : prime x = true := by
  rw [prime_iff]
  refine ⟨h, fun q h1 h2 h3 => hn q h1 h2 ?_⟩
  have := Int.tmod_eq_emod_of_nonneg (a := x) (b := q) (by omega)
  omega
theorem nd_sq {d n : Int} (hd : 2 ≤ d) (h : Nd d n) (h2 : n < d * d) (h1 : 1 < n) : prime n = true := prime_of (by omega) fun q q1 q2 => h q q1 (by
  refine Int.not_le.1 fun hc => ?_
  have := Int.mul_le_mul hc hc (by omega) (by omega)
  omega)
theorem nd_prime {d n : Int} (h : Nd d n) (hd : 2 ≤ d) (h2 : n % d = 0) : prime d = true := prime_of hd fun q q1 q2 q3 => by
  have hq : q < d := by
    have : 2 * q ≤ q * q := Int.mul_le_mul_of_nonneg_right q1 (by omega)
    omega
  exact h q q1 hq (Int.emod_eq_zero_of_dvd (Int.dvd_trans (Int.dvd_of_emod_eq_zero q3) (Int.dvd_of_emod_eq_zero h2)))
theorem nd_div {d n : Int} (h : Nd d n) (h2 : n % d = 0) : Nd d (n / d) := fun q q1 q2 q3 => h q q1 q2 (by
  have := Int.ediv_mul_cancel (Int.dvd_of_emod_eq_zero h2)
  rw [← this]
  exact Int.emod_eq_zero_of_dvd (Int.dvd_trans (Int.dvd_of_emod_eq_zero q3) (Int.dvd_mul_right _ _)))
theorem nd_step {d n : Int} (h : Nd d n) (h2 : ¬ n % d = 0) : Nd (d + 1) n := fun q q1 q2 => by
  by_cases e : q = d
  · subst e; exact h2
  · exact h q q1 (by omega)
theorem facI_mem (d n : Int) (h : 2 ≤ d ∧ 1 ≤ n) (hN : Nd d n) : ∀ x ∈ facI d n, prime x = true ∧ x ≤ n ∧ n % x = 0 := by
  intro x hx
  by_cases h2 : n % d = 0
  · rw [facI_yes h h2] at hx
    have hl := ediv_less h h2
    rcases List.mem_cons.1 hx with rfl | hx
    · exact ⟨nd_prime hN h.1 h2, Int.le_of_dvd (by omega) (Int.dvd_of_emod_eq_zero h2), h2⟩
    · obtain ⟨r1, r2, r3⟩ := facI_mem d (n / d) ⟨h.1, hl.2⟩ (nd_div hN h2) x hx
      refine ⟨r1, by omega, ?_⟩
      have := Int.ediv_mul_cancel (Int.dvd_of_emod_eq_zero h2)
      rw [← this]
      exact Int.emod_eq_zero_of_dvd (Int.dvd_trans (Int.dvd_of_emod_eq_zero r3) (Int.dvd_mul_right _ _))
  · rw [facI_no h h2, facO] at hx
    split at hx
    · exact facI_mem (d + 1) n ⟨by omega, h.2⟩ (nd_step hN h2) x hx
    · split at hx
      · simp only [List.mem_singleton] at hx
        subst hx
        exact ⟨nd_sq (by omega) (nd_step hN h2) (by omega) (by omega), Int.le_refl _, Int.emod_self⟩
      · cases hx
termination_by (n.toNat, (n - d).toNat)
decreasing_by
  · have := ediv_less h h2
    exact Prod.Lex.left _ _ (by omega)
  · have : (d + 1) * 1 ≤ (d + 1) * (d + 1) := Int.mul_le_mul_of_nonneg_left (by omega) (by omega)
    exact Prod.Lex.right _ (by omega)
theorem fac_mem {n : Int} (h : 1 ≤ n) : ∀ x ∈ fac n, prime x = true ∧ x ≤ n ∧ n % x = 0 := by
  intro x hx
  have hN : Nd 2 n := fun q q1 q2 => by omega
  rw [fac, facO] at hx
  split at hx
  · exact facI_mem 2 n ⟨by omega, h⟩ hN x hx
  · split at hx
    · simp only [List.mem_singleton] at hx
      subst hx
      exact ⟨nd_sq (by omega) hN (by omega) (by omega), Int.le_refl _, Int.emod_self⟩
    · cases hx
/-- How long the list may be: 2 ^ length is at most n. -/
theorem facI_len (d n : Int) (h : 2 ≤ d ∧ 1 ≤ n) : ((facI d n).length : Int) ≤ n := by
  by_cases h2 : n % d = 0
  · rw [facI_yes h h2]
    have hl := ediv_less h h2
    have := facI_len d (n / d) ⟨h.1, hl.2⟩
    simp only [List.length_cons]
    omega
  · rw [facI_no h h2, facO]
    split
    · exact facI_len (d + 1) n ⟨by omega, h.2⟩
    · split <;> simp <;> omega
termination_by (n.toNat, (n - d).toNat)
decreasing_by
  · have := ediv_less h h2
    exact Prod.Lex.left _ _ (by omega)
  · have : (d + 1) * 1 ≤ (d + 1) * (d + 1) := Int.mul_le_mul_of_nonneg_left (by omega) (by omega)
    exact Prod.Lex.right _ (by omega)
theorem fac_len {n : Int} (h : 1 ≤ n) : ((fac n).length : Int) ≤ n := by
  rw [fac, facO]
  split
  · exact facI_len 2 n ⟨by omega, h⟩
  · split <;> simp <;> omega

/-- At the head of the outer loop, of the inner one. -/
structure FcI (n d m : Int) (k : Nat) (R : List (List Value)) (rest : List Int) : Prop where
  m1 : 1 ≤ m
  m2 : m ≤ 1000000
  d1 : 2 ≤ d
  d2 : d ≤ 1001
  k : k = R.length ∧ k ≤ 1000000
  r : ∃ acc, R = ints acc ∧ acc ++ rest = fac n
theorem FcI.put {n d m : Int} {k : Nat} {R : List (List Value)} {x : Int} {rest : List Int} (I : FcI n d m k R (x :: rest)) (h1 : 1 ≤ n) (h2 : n ≤ 1000000) : ∃ acc, R ++ [[.int .i64 x]] = ints acc ∧ acc ++ rest = fac n ∧ R.length + 1 ≤ 1000000 := by
  obtain ⟨acc, r1, r2⟩ := I.r
  refine ⟨acc ++ [x], by rw [r1, ints_app]; rfl, by rw [List.append_assoc]; exact r2, ?_⟩
  have := fac_len h1
  rw [← r2] at this
  rw [r1, ints_len]
  simp only [List.length_append, List.length_cons] at this
  omega
theorem FcI.div {n d m : Int} {k : Nat} {R : List (List Value)} (I : FcI n d m k R (facI d m)) (h : m.tmod d = 0) (h1 : 1 ≤ n) (h2 : n ≤ 1000000) : FcI n d (m.tdiv d) (R.length + 1) (R ++ [[.int .i64 d]]) (facI d (m.tdiv d)) ∧ (m.tdiv d) < m := by
  have e1 := Int.tmod_eq_emod_of_nonneg (a := m) (b := d) (by have := I.m1; omega)
  have e2 := Int.tdiv_eq_ediv_of_nonneg (a := m) (b := d) (by have := I.m1; omega)
  rw [e1] at h
  have hl := ediv_less ⟨I.d1, I.m1⟩ h
  have J := I
  rw [facI_yes ⟨I.d1, I.m1⟩ h] at J
  obtain ⟨acc, q1, q2, q3⟩ := J.put h1 h2
  have := I.m2
  rw [e2]
  exact ⟨⟨hl.2, by omega, I.d1, I.d2, ⟨by simp, q3⟩, acc, q1, q2⟩, hl.1⟩
theorem FcI.next {n d m : Int} {k : Nat} {R : List (List Value)} (I : FcI n d m k R (facI d m)) (h : ¬ m.tmod d = 0) (hd : d ≤ 1000) : FcI n (d + 1) m k R (facO (d + 1) m) := by
  have e1 := Int.tmod_eq_emod_of_nonneg (a := m) (b := d) (by have := I.m1; omega)
  rw [e1] at h
  have r := I.r
  rw [facI_no ⟨I.d1, I.m1⟩ h] at r
  exact ⟨I.m1, I.m2, by have := I.d1; omega, by omega, I.k, r⟩
theorem FcI.enter {n d m : Int} {k : Nat} {R : List (List Value)} (I : FcI n d m k R (facO d m)) (h : d * d ≤ m) : FcI n d m k R (facI d m) ∧ d ≤ 1000 ∧ d < m := by
  have r := I.r
  rw [facO, if_pos h] at r
  have h1 := I.d1
  have h2 := I.m2
  refine ⟨⟨I.m1, I.m2, I.d1, I.d2, I.k, r⟩, ?_, ?_⟩
  · refine Int.not_lt.1 fun hc => ?_
    have := Int.mul_le_mul (show 1001 ≤ d by omega) (show 1001 ≤ d by omega) (by omega) (by omega)
    omega
  · have := Int.mul_le_mul_of_nonneg_right h1 (show 0 ≤ d by omega)
    omega
theorem FcI.fin {n d m : Int} {k : Nat} {R : List (List Value)} (I : FcI n d m k R (facO d m)) (h : ¬ d * d ≤ m) (h1 : 1 ≤ n) (h2 : n ≤ 1000000) : (1 < m → R ++ [[.int .i64 m]] = ints (fac n) ∧ R.length + 1 = (fac n).length) ∧ (¬ 1 < m → R = ints (fac n) ∧ R.length = (fac n).length) := by
  obtain ⟨acc, r1, r2⟩ := I.r
  rw [facO, if_neg h] at r2
  refine ⟨fun h => ?_, fun h => ?_⟩
  · rw [if_pos h] at r2
    rw [r1, ← r2, ints_app]
    exact ⟨rfl, by simp⟩
  · rw [if_neg h, List.append_nil] at r2
    rw [r1, r2]
    exact ⟨rfl, by simp⟩

theorem spec_nuFactors (n : Int) (h1 : 1 ≤ n) (h2 : n ≤ 1000000) : AFun Try.prog 75 [] [I n] (.c (.slc (0, 0) (fac n).length)) [] [FI (fac n)] := by
  refine afun_intro fn75 rfl rfl (by repeat' (first | exact trivial | (simp; done) | refine ⟨?_, ?_⟩)) ?_
  unfold ac75
  repeat' (first | ((with_reducible refine (?_ : (_ : Bool) = _)); (with_reducible rfl)) | ((with_reducible refine (?_ : (_ : Nat × Nat) = _)); (with_reducible rfl)) | (with_reducible refine leafRI ?_) | (with_reducible refine leafRB ?_) | (with_reducible refine leafI ?_) | (with_reducible refine leafB ?_) | ((with_reducible refine (?_ : (_ : Int) = _)); (with_reducible rfl)) | ((with_reducible refine (?_ : (_ : List (List Value)) = _)); (with_reducible rfl)) | ((with_reducible refine (?_ : (_ : Int) ≠ 0)); (first | assumption | omega | (simp; done) | (simp only [ints_len] at *; omega) | (simp; omega))) | ((with_reducible refine (?_ : (_ : Int) ≤ _)); (first | assumption | omega | (simp; done) | (simp only [ints_len] at *; omega) | (simp; omega))) | ((with_reducible refine (?_ : (_ : Int) < _)); (first | assumption | omega | (simp; done) | (simp only [ints_len] at *; omega) | (simp; omega))) | ((with_reducible refine (?_ : (_ : Nat) ≤ _)); (first | omega | (simp only [List.length_cons, List.length_nil]; omega) | (simp [ints]; done) | (simp; omega))) | ((with_reducible refine (?_ : (_ : Nat) < _)); (first | omega | (simp only [List.length_cons, List.length_nil]; omega) | (simp [ints]; done) | (simp; omega))) | ((with_reducible refine (?_ : (_ : Nat) = _)); (first | (with_reducible rfl) | (simp; done) | (simp only [fr_len]) | (simp only [ints_len]) | omega | (simp [*]; done))) | (refine And.intro ?_ ?_) | (intro h; first | (exact Bool.noConfusion h) | ((simp only [decide_eq_true_eq, decide_eq_false_iff_not, beq_iff_eq, bne_iff_ne, ne_eq, beq_eq_false_iff_ne, bne_eq_false_iff_eq, Bool.not_eq_true', Bool.not_eq_false', Bool.not_eq_true, Bool.not_eq_false, Int.not_le, Int.not_lt, Bool.and_eq_true, Bool.or_eq_true, Bool.or_eq_false_iff, Bool.and_eq_false_iff] at h); (try (first | (exact Bool.noConfusion h) | (exact (h trivial).elim)))) | skip) | ((with_reducible refine (?_ : chk _ _ = true)); kernel_rfl) | ((with_reducible refine (?_ : (_ : IntKind) = _)); (with_reducible rfl)) | ((with_reducible refine (?_ : eqC (C.pvw _ _ _) (C.pvw _ _ _))); exact rfl) | ((with_reducible refine (?_ : eqC (C.pv (Value.int IntKind.u64 _)) _)); exact rfl) | exact trivial)
  refine loop_rule (σ := Int × Nat × List (List Value) × Int) (fun s => [(0, I s.1), (3, .c (.slc (3, 0) s.2.1)), (4, I s.2.2.2)]) (fun s => [((2, 0), .fl 3 1 []), ((3, 0), .fl 3 1 s.2.2.1)]) (fun s => FcI n s.2.2.2 s.1 s.2.1 s.2.2.1 (facO s.2.2.2 s.1)) (fun s => (s.1 - s.2.2.2).toNat) ((n, 0, [], 2)) ?_ (by repeat' (first | exact trivial | exact rfl | (refine And.intro ?_ ?_))) (by repeat' (first | exact trivial | exact rfl | (refine And.intro ?_ ?_))) (fun s => ⟨rfl, rfl⟩) (fun s i h => by first | exact absurd h (Nat.not_lt_zero i) | (cases i with | zero => rfl | succ i => exact absurd (Nat.lt_of_succ_lt_succ h) (Nat.not_lt_zero i))) ?_
  · exact ⟨h1, h2, by dsimp only; omega, by dsimp only; omega, ⟨rfl, by dsimp only; omega⟩, [], rfl, rfl⟩
  · rintro ⟨m, k, R, d⟩ I
    dsimp only at I ⊢
    have b1 := I.m1
    have b2 := I.m2
    have b3 := I.d1
    have b4 := I.d2
    have b5 := I.k
    have b6 := mul_bd (a := d) (b := d) (A := 1001) (B := 1001) (by omega) (by omega) (by omega) (by omega)
    have v0 : wrap64 (d * d) = d * d := wrap_small (by omega) (by omega)
    have en := I.enter
    have fi := fun h => I.fin h h1 h2
    clear I
    repeat' (first | ((with_reducible refine (?_ : (_ : Bool) = _)); (with_reducible rfl)) | ((with_reducible refine (?_ : (_ : Nat × Nat) = _)); (with_reducible rfl)) | (with_reducible refine leafRI ?_) | (with_reducible refine leafRB ?_) | (with_reducible refine leafI ?_) | (with_reducible refine leafB ?_) | ((with_reducible refine (?_ : (_ : Int) = _)); (with_reducible rfl)) | ((with_reducible refine (?_ : (_ : List (List Value)) = _)); (with_reducible rfl)) | ((with_reducible refine (?_ : (_ : Int) ≠ 0)); (first | assumption | omega | (simp; done) | (simp only [ints_len] at *; omega) | (simp; omega))) | ((with_reducible refine (?_ : (_ : Int) ≤ _)); (first | assumption | omega | (simp; done) | (simp only [ints_len] at *; omega) | (simp; omega))) | ((with_reducible refine (?_ : (_ : Int) < _)); (first | assumption | omega | (simp; done) | (simp only [ints_len] at *; omega) | (simp; omega))) | ((with_reducible refine (?_ : (_ : Nat) ≤ _)); (first | omega | (simp only [List.length_cons, List.length_nil]; omega) | (simp [ints]; done) | (simp; omega))) | ((with_reducible refine (?_ : (_ : Nat) < _)); (first | omega | (simp only [List.length_cons, List.length_nil]; omega) | (simp [ints]; done) | (simp; omega))) | ((with_reducible refine (?_ : (_ : Nat) = _)); (first | (with_reducible rfl) | (simp; done) | (simp only [fr_len]) | (simp only [ints_len]) | omega | (simp [*]; done))) | (refine And.intro ?_ ?_) | (intro h; first | (exact Bool.noConfusion h) | ((simp only [decide_eq_true_eq, decide_eq_false_iff_not, beq_iff_eq, bne_iff_ne, ne_eq, beq_eq_false_iff_ne, bne_eq_false_iff_eq, Bool.not_eq_true', Bool.not_eq_false', Bool.not_eq_true, Bool.not_eq_false, Int.not_le, Int.not_lt, Bool.and_eq_true, Bool.or_eq_true, Bool.or_eq_false_iff, Bool.and_eq_false_iff] at h); (try (first | (exact Bool.noConfusion h) | (exact (h trivial).elim)))) | skip) | ((with_reducible refine (?_ : chk _ _ = true)); kernel_rfl) | ((with_reducible refine (?_ : (_ : IntKind) = _)); (with_reducible rfl)) | ((with_reducible refine (?_ : eqC (C.pvw _ _ _) (C.pvw _ _ _))); exact rfl) | ((with_reducible refine (?_ : eqC (C.pv (Value.int IntKind.u64 _)) _)); exact rfl) | exact trivial)
    · rw [v0] at h
      obtain ⟨J, c1, c2⟩ := en h
      clear en fi b5
      refine loop_rule (σ := Int × Nat × List (List Value)) (fun s => [(0, I s.1), (3, .c (.slc (3, 0) s.2.1))]) (fun s => [((2, 0), .fl 3 1 []), ((3, 0), .fl 3 1 s.2.2)]) (fun s => FcI n d s.1 s.2.1 s.2.2 (facI d s.1) ∧ s.1 ≤ m) (fun s => s.1.toNat) ((m, k, R)) ?_ (by repeat' (first | exact trivial | exact rfl | (refine And.intro ?_ ?_))) (by repeat' (first | exact trivial | exact rfl | (refine And.intro ?_ ?_))) (fun s => ⟨rfl, rfl⟩) (fun s i h => by first | exact absurd h (Nat.not_lt_zero i) | (cases i with | zero => rfl | succ i => exact absurd (Nat.lt_of_succ_lt_succ h) (Nat.not_lt_zero i))) ?_
      · exact ⟨J, Int.le_refl _⟩
      · rintro ⟨m', k', R'⟩ ⟨I', i2⟩
        dsimp only at I' i2 ⊢
        have b1 := I'.m1
        have b2 := I'.m2
        have b5 := I'.k
        have dv := fun h => I'.div h h1 h2
        have nx := fun h => I'.next h c1
        have w1 : wrap64 (d + 1) = d + 1 := wrap_small (by omega) (by omega)
        have w2 : wrap64 (m'.tdiv d) = m'.tdiv d := by
          have e2 := Int.tdiv_eq_ediv_of_nonneg (a := m') (b := d) (by omega)
          have := Int.ediv_le_self d (show 0 ≤ m' by omega)
          have := Int.ediv_nonneg (show 0 ≤ m' by omega) (show 0 ≤ d by omega)
          exact wrap_small (by omega) (by omega)
        clear I'
        repeat' (first | ((with_reducible refine (?_ : (_ : Bool) = _)); (with_reducible rfl)) | ((with_reducible refine (?_ : (_ : Nat × Nat) = _)); (with_reducible rfl)) | (with_reducible refine leafRI ?_) | (with_reducible refine leafRB ?_) | (with_reducible refine leafI ?_) | (with_reducible refine leafB ?_) | ((with_reducible refine (?_ : (_ : Int) = _)); (with_reducible rfl)) | ((with_reducible refine (?_ : (_ : List (List Value)) = _)); (with_reducible rfl)) | ((with_reducible refine (?_ : (_ : Int) ≠ 0)); (first | assumption | omega | (simp; done) | (simp only [ints_len] at *; omega) | (simp; omega))) | ((with_reducible refine (?_ : (_ : Int) ≤ _)); (first | assumption | omega | (simp; done) | (simp only [ints_len] at *; omega) | (simp; omega))) | ((with_reducible refine (?_ : (_ : Int) < _)); (first | assumption | omega | (simp; done) | (simp only [ints_len] at *; omega) | (simp; omega))) | ((with_reducible refine (?_ : (_ : Nat) ≤ _)); (first | omega | (simp only [List.length_cons, List.length_nil]; omega) | (simp [ints]; done) | (simp; omega))) | ((with_reducible refine (?_ : (_ : Nat) < _)); (first | omega | (simp only [List.length_cons, List.length_nil]; omega) | (simp [ints]; done) | (simp; omega))) | ((with_reducible refine (?_ : (_ : Nat) = _)); (first | (with_reducible rfl) | (simp; done) | (simp only [fr_len]) | (simp only [ints_len]) | omega | (simp [*]; done))) | (refine And.intro ?_ ?_) | (intro h; first | (exact Bool.noConfusion h) | ((simp only [decide_eq_true_eq, decide_eq_false_iff_not, beq_iff_eq, bne_iff_ne, ne_eq, beq_eq_false_iff_ne, bne_eq_false_iff_eq, Bool.not_eq_true', Bool.not_eq_false', Bool.not_eq_true, Bool.not_eq_false, Int.not_le, Int.not_lt, Bool.and_eq_true, Bool.or_eq_true, Bool.or_eq_false_iff, Bool.and_eq_false_iff] at h); (try (first | (exact Bool.noConfusion h) | (exact (h trivial).elim)))) | skip) | ((with_reducible refine (?_ : chk _ _ = true)); kernel_rfl) | ((with_reducible refine (?_ : (_ : IntKind) = _)); (with_reducible rfl)) | ((with_reducible refine (?_ : eqC (C.pvw _ _ _) (C.pvw _ _ _))); exact rfl) | ((with_reducible refine (?_ : eqC (C.pv (Value.int IntKind.u64 _)) _)); exact rfl) | exact trivial)
        · obtain ⟨q1, q2⟩ := dv h
          refine ⟨(_, _, _), ?_, ?_, none, And.intro rfl (And.intro (by repeat' (first | exact trivial | exact rfl | (refine And.intro ?_ ?_))) (by repeat' (first | exact trivial | exact rfl | (refine And.intro ?_ ?_))))⟩
          · dsimp only
            rw [w2]
            exact ⟨q1, by omega⟩
          · dsimp only
            rw [w2]
            omega
        · have q1 := nx h
          refine ⟨(_, _, _, _), ?_, ?_, none, And.intro rfl (And.intro (by repeat' (first | exact trivial | exact rfl | (refine And.intro ?_ ?_))) (by repeat' (first | exact trivial | exact rfl | (refine And.intro ?_ ?_))))⟩
          · dsimp only
            rw [w1]
            exact q1
          · dsimp only
            rw [w1]
            omega
    all_goals
      rename_i g
      rw [v0] at g
      obtain ⟨f1, f2⟩ := fi (by omega)
      first | exact (f1 h).2 | exact (f1 h).1 | exact (f2 (by omega)).1

theorem impl_factors (n : Int) (h1 : 1 ≤ n) (h2 : n ≤ 1000000) : AFun Try.prog 73 [] [I n] (.c (.slc (0, 0) (fac n).length)) [] [FI (fac n)] := by
  refine afun_intro fn73 rfl rfl (by repeat' (first | exact trivial | (simp; done) | refine ⟨?_, ?_⟩)) ?_
  unfold ac73
  repeat' (first | ((with_reducible refine (?_ : (_ : Bool) = _)); (with_reducible rfl)) | ((with_reducible refine (?_ : (_ : Nat × Nat) = _)); (with_reducible rfl)) | (with_reducible refine leafRI ?_) | (with_reducible refine leafRB ?_) | (with_reducible refine leafI ?_) | (with_reducible refine leafB ?_) | ((with_reducible refine (?_ : (_ : Int) = _)); (with_reducible rfl)) | ((with_reducible refine (?_ : (_ : List (List Value)) = _)); (with_reducible rfl)) | ((with_reducible refine (?_ : (_ : Int) ≠ 0)); (first | assumption | omega | (simp; done) | (simp only [ints_len] at *; omega) | (simp; omega))) | ((with_reducible refine (?_ : (_ : Int) ≤ _)); (first | assumption | omega | (simp; done) | (simp only [ints_len] at *; omega) | (simp; omega))) | ((with_reducible refine (?_ : (_ : Int) < _)); (first | assumption | omega | (simp; done) | (simp only [ints_len] at *; omega) | (simp; omega))) | ((with_reducible refine (?_ : (_ : Nat) ≤ _)); (first | omega | (simp only [List.length_cons, List.length_nil]; omega) | (simp [ints]; done) | (simp; omega))) | ((with_reducible refine (?_ : (_ : Nat) < _)); (first | omega | (simp only [List.length_cons, List.length_nil]; omega) | (simp [ints]; done) | (simp; omega))) | ((with_reducible refine (?_ : (_ : Nat) = _)); (first | (with_reducible rfl) | (simp; done) | (simp only [fr_len]) | (simp only [ints_len]) | omega | (simp [*]; done))) | (refine And.intro ?_ ?_) | (intro h; first | (exact Bool.noConfusion h) | ((simp only [decide_eq_true_eq, decide_eq_false_iff_not, beq_iff_eq, bne_iff_ne, ne_eq, beq_eq_false_iff_ne, bne_eq_false_iff_eq, Bool.not_eq_true', Bool.not_eq_false', Bool.not_eq_true, Bool.not_eq_false, Int.not_le, Int.not_lt, Bool.and_eq_true, Bool.or_eq_true, Bool.or_eq_false_iff, Bool.and_eq_false_iff] at h); (try (first | (exact Bool.noConfusion h) | (exact (h trivial).elim)))) | skip) | ((with_reducible refine (?_ : chk _ _ = true)); kernel_rfl) | ((with_reducible refine (?_ : (_ : IntKind) = _)); (with_reducible rfl)) | ((with_reducible refine (?_ : eqC (C.pvw _ _ _) (C.pvw _ _ _))); exact rfl) | ((with_reducible refine (?_ : eqC (C.pv (Value.int IntKind.u64 _)) _)); exact rfl) | exact trivial)
  refine loop_rule (σ := Int × Nat × List (List Value) × Int) (fun s => [(0, I s.1), (3, .c (.slc (5, 0) s.2.1)), (4, I s.2.2.2)]) (fun s => [((2, 0), .fl 3 1 []), ((5, 0), .fl 3 1 s.2.2.1)]) (fun s => FcI n s.2.2.2 s.1 s.2.1 s.2.2.1 (facO s.2.2.2 s.1)) (fun s => (s.1 - s.2.2.2).toNat) ((n, 0, [], 2)) ?_ (by repeat' (first | exact trivial | exact rfl | (refine And.intro ?_ ?_))) (by repeat' (first | exact trivial | exact rfl | (refine And.intro ?_ ?_))) (fun s => ⟨rfl, rfl⟩) (fun s i h => by first | exact absurd h (Nat.not_lt_zero i) | (cases i with | zero => rfl | succ i => exact absurd (Nat.lt_of_succ_lt_succ h) (Nat.not_lt_zero i))) ?_
  · exact ⟨h1, h2, by dsimp only; omega, by dsimp only; omega, ⟨rfl, by dsimp only; omega⟩, [], rfl, rfl⟩
  · rintro ⟨m, k, R, d⟩ I
    dsimp only at I ⊢
    have b1 := I.m1
    have b2 := I.m2
    have b3 := I.d1
    have b4 := I.d2
    have b5 := I.k
    have b6 := mul_bd (a := d) (b := d) (A := 1001) (B := 1001) (by omega) (by omega) (by omega) (by omega)
    have v0 : wrap64 (d * d) = d * d := wrap_small (by omega) (by omega)
    have en := I.enter
    have fi := fun h => I.fin h h1 h2
    clear I
    repeat' (first | ((with_reducible refine (?_ : (_ : Bool) = _)); (with_reducible rfl)) | ((with_reducible refine (?_ : (_ : Nat × Nat) = _)); (with_reducible rfl)) | (with_reducible refine leafRI ?_) | (with_reducible refine leafRB ?_) | (with_reducible refine leafI ?_) | (with_reducible refine leafB ?_) | ((with_reducible refine (?_ : (_ : Int) = _)); (with_reducible rfl)) | ((with_reducible refine (?_ : (_ : List (List Value)) = _)); (with_reducible rfl)) | ((with_reducible refine (?_ : (_ : Int) ≠ 0)); (first | assumption | omega | (simp; done) | (simp only [ints_len] at *; omega) | (simp; omega))) | ((with_reducible refine (?_ : (_ : Int) ≤ _)); (first | assumption | omega | (simp; done) | (simp only [ints_len] at *; omega) | (simp; omega))) | ((with_reducible refine (?_ : (_ : Int) < _)); (first | assumption | omega | (simp; done) | (simp only [ints_len] at *; omega) | (simp; omega))) | ((with_reducible refine (?_ : (_ : Nat) ≤ _)); (first | omega | (simp only [List.length_cons, List.length_nil]; omega) | (simp [ints]; done) | (simp; omega))) | ((with_reducible refine (?_ : (_ : Nat) < _)); (first | omega | (simp only [List.length_cons, List.length_nil]; omega) | (simp [ints]; done) | (simp; omega))) | ((with_reducible refine (?_ : (_ : Nat) = _)); (first | (with_reducible rfl) | (simp; done) | (simp only [fr_len]) | (simp only [ints_len]) | omega | (simp [*]; done))) | (refine And.intro ?_ ?_) | (intro h; first | (exact Bool.noConfusion h) | ((simp only [decide_eq_true_eq, decide_eq_false_iff_not, beq_iff_eq, bne_iff_ne, ne_eq, beq_eq_false_iff_ne, bne_eq_false_iff_eq, Bool.not_eq_true', Bool.not_eq_false', Bool.not_eq_true, Bool.not_eq_false, Int.not_le, Int.not_lt, Bool.and_eq_true, Bool.or_eq_true, Bool.or_eq_false_iff, Bool.and_eq_false_iff] at h); (try (first | (exact Bool.noConfusion h) | (exact (h trivial).elim)))) | skip) | ((with_reducible refine (?_ : chk _ _ = true)); kernel_rfl) | ((with_reducible refine (?_ : (_ : IntKind) = _)); (with_reducible rfl)) | ((with_reducible refine (?_ : eqC (C.pvw _ _ _) (C.pvw _ _ _))); exact rfl) | ((with_reducible refine (?_ : eqC (C.pv (Value.int IntKind.u64 _)) _)); exact rfl) | exact trivial)
    · rw [v0] at h
      obtain ⟨J, c1, c2⟩ := en h
      clear en fi b5
      refine loop_rule (σ := Int × Nat × List (List Value)) (fun s => [(0, I s.1), (3, .c (.slc (5, 0) s.2.1))]) (fun s => [((2, 0), .fl 3 1 []), ((5, 0), .fl 3 1 s.2.2)]) (fun s => FcI n d s.1 s.2.1 s.2.2 (facI d s.1) ∧ s.1 ≤ m) (fun s => s.1.toNat) ((m, k, R)) ?_ (by repeat' (first | exact trivial | exact rfl | (refine And.intro ?_ ?_))) (by repeat' (first | exact trivial | exact rfl | (refine And.intro ?_ ?_))) (fun s => ⟨rfl, rfl⟩) (fun s i h => by first | exact absurd h (Nat.not_lt_zero i) | (cases i with | zero => rfl | succ i => exact absurd (Nat.lt_of_succ_lt_succ h) (Nat.not_lt_zero i))) ?_
      · exact ⟨J, Int.le_refl _⟩
      · rintro ⟨m', k', R'⟩ ⟨I', i2⟩
        dsimp only at I' i2 ⊢
        have b1 := I'.m1
        have b2 := I'.m2
        have b5 := I'.k
        have dv := fun h => I'.div h h1 h2
        have nx := fun h => I'.next h c1
        have w1 : wrap64 (d + 1) = d + 1 := wrap_small (by omega) (by omega)
        have w2 : wrap64 (m'.tdiv d) = m'.tdiv d := by
          have e2 := Int.tdiv_eq_ediv_of_nonneg (a := m') (b := d) (by omega)
          have := Int.ediv_le_self d (show 0 ≤ m' by omega)
          have := Int.ediv_nonneg (show 0 ≤ m' by omega) (show 0 ≤ d by omega)
          exact wrap_small (by omega) (by omega)
        clear I'
        repeat' (first | ((with_reducible refine (?_ : (_ : Bool) = _)); (with_reducible rfl)) | ((with_reducible refine (?_ : (_ : Nat × Nat) = _)); (with_reducible rfl)) | (with_reducible refine leafRI ?_) | (with_reducible refine leafRB ?_) | (with_reducible refine leafI ?_) | (with_reducible refine leafB ?_) | ((with_reducible refine (?_ : (_ : Int) = _)); (with_reducible rfl)) | ((with_reducible refine (?_ : (_ : List (List Value)) = _)); (with_reducible rfl)) | ((with_reducible refine (?_ : (_ : Int) ≠ 0)); (first | assumption | omega | (simp; done) | (simp only [ints_len] at *; omega) | (simp; omega))) | ((with_reducible refine (?_ : (_ : Int) ≤ _)); (first | assumption | omega | (simp; done) | (simp only [ints_len] at *; omega) | (simp; omega))) | ((with_reducible refine (?_ : (_ : Int) < _)); (first | assumption | omega | (simp; done) | (simp only [ints_len] at *; omega) | (simp; omega))) | ((with_reducible refine (?_ : (_ : Nat) ≤ _)); (first | omega | (simp only [List.length_cons, List.length_nil]; omega) | (simp [ints]; done) | (simp; omega))) | ((with_reducible refine (?_ : (_ : Nat) < _)); (first | omega | (simp only [List.length_cons, List.length_nil]; omega) | (simp [ints]; done) | (simp; omega))) | ((with_reducible refine (?_ : (_ : Nat) = _)); (first | (with_reducible rfl) | (simp; done) | (simp only [fr_len]) | (simp only [ints_len]) | omega | (simp [*]; done))) | (refine And.intro ?_ ?_) | (intro h; first | (exact Bool.noConfusion h) | ((simp only [decide_eq_true_eq, decide_eq_false_iff_not, beq_iff_eq, bne_iff_ne, ne_eq, beq_eq_false_iff_ne, bne_eq_false_iff_eq, Bool.not_eq_true', Bool.not_eq_false', Bool.not_eq_true, Bool.not_eq_false, Int.not_le, Int.not_lt, Bool.and_eq_true, Bool.or_eq_true, Bool.or_eq_false_iff, Bool.and_eq_false_iff] at h); (try (first | (exact Bool.noConfusion h) | (exact (h trivial).elim)))) | skip) | ((with_reducible refine (?_ : chk _ _ = true)); kernel_rfl) | ((with_reducible refine (?_ : (_ : IntKind) = _)); (with_reducible rfl)) | ((with_reducible refine (?_ : eqC (C.pvw _ _ _) (C.pvw _ _ _))); exact rfl) | ((with_reducible refine (?_ : eqC (C.pv (Value.int IntKind.u64 _)) _)); exact rfl) | exact trivial)
        · obtain ⟨q1, q2⟩ := dv h
          refine ⟨(_, _, _), ?_, ?_, none, And.intro rfl (And.intro (by repeat' (first | exact trivial | exact rfl | (refine And.intro ?_ ?_))) (by repeat' (first | exact trivial | exact rfl | (refine And.intro ?_ ?_))))⟩
          · dsimp only
            rw [w2]
            exact ⟨q1, by omega⟩
          · dsimp only
            rw [w2]
            omega
        · have q1 := nx h
          refine ⟨(_, _, _, _), ?_, ?_, none, And.intro rfl (And.intro (by repeat' (first | exact trivial | exact rfl | (refine And.intro ?_ ?_))) (by repeat' (first | exact trivial | exact rfl | (refine And.intro ?_ ?_))))⟩
          · dsimp only
            rw [w1]
            exact q1
          · dsimp only
            rw [w1]
            omega
    all_goals
      rename_i g
      rw [v0] at g
      obtain ⟨f1, f2⟩ := fi (by omega)
      first | exact (f1 h).2 | exact (f1 h).1 | exact (f2 (by omega)).1


/-! the different primes -/
def ddS (acc : List Int) (p : Int) : List Int := if acc = [] ∨ acc.getLast? ≠ some p then acc ++ [p] else acc
def dd (acc l : List Int) : List Int := l.foldl ddS acc
theorem dd_mem (x : Int) : ∀ (l acc : List Int), x ∈ dd acc l ↔ x ∈ acc ∨ x ∈ l
  | [], acc => by simp [dd]
  | p :: l, acc => by
    have ih := dd_mem x l (ddS acc p)
    rw [show dd acc (p :: l) = dd (ddS acc p) l from rfl, ih, ddS]
    split
    · simp only [List.mem_append, List.mem_cons, List.not_mem_nil, or_false]
      constructor
      · rintro ((h | h) | h) <;> simp [h]
      · rintro (h | h | h) <;> simp [h]
    · rename_i h
      have hp : acc.getLast? = some p := Classical.byContradiction fun hc => h (.inr hc)
      have := List.mem_of_getLast? hp
      simp only [List.mem_cons]
      constructor
      · rintro (h | h) <;> simp [h]
      · rintro (h | h | h)
        · simp [h]
        · subst h; simp [this]
        · simp [h]
theorem dd_len : ∀ (l acc : List Int), (dd acc l).length ≤ acc.length + l.length
  | [], acc => by simp [dd]
  | p :: l, acc => by
    have ih := dd_len l (ddS acc p)
    rw [show dd acc (p :: l) = dd (ddS acc p) l from rfl]
    have : (ddS acc p).length ≤ acc.length + 1 := by unfold ddS; split <;> simp
    simp only [List.length_cons]
    omega
def prs (n : Int) : List Int := dd [] (fac n)
theorem prs_mem {n : Int} (h : 1 ≤ n) : ∀ x ∈ prs n, prime x = true ∧ x ≤ n ∧ n % x = 0 := fun x hx => fac_mem h x (by simpa [prs, dd_mem] using hx)

theorem drop_at {l : List Int} {i : Nat} {x : Int} (hx : l[i]? = some x) : l.drop i = x :: l.drop (i + 1) := by
  obtain ⟨h1, h2⟩ := List.getElem?_eq_some_iff.1 hx
  rw [List.drop_eq_getElem_cons h1, h2]
theorem dd_step {l acc r : List Int} {i : Nat} {x : Int} (hx : l[i]? = some x) (hd : dd acc (l.drop i) = r) : dd (ddS acc x) (l.drop (i + 1)) = r := by
  rw [drop_at hx] at hd
  exact hd
theorem ddS_nil {acc : List Int} {x : Int} (h : acc.length = 0) : ddS acc x = acc ++ [x] := by rw [ddS, if_pos (.inl (List.eq_nil_of_length_eq_zero h))]
theorem ddS_ne {acc : List Int} {x y : Int} {j : Nat} (hj : j + 1 = acc.length) (h : acc[j]? = some y) (hn : ¬ y = x) : ddS acc x = acc ++ [x] := by
  have h2 : acc.getLast? ≠ some x := by
    rw [List.getLast?_eq_getElem?, show acc.length - 1 = j by omega, h]
    simpa using hn
  rw [ddS, if_pos (.inr h2)]
theorem ddS_eq {acc : List Int} {x : Int} {j : Nat} (hj : j + 1 = acc.length) (h : acc[j]? = some x) : ddS acc x = acc := by
  rw [ddS, if_neg]
  rintro (e | e)
  · rw [e] at hj; simp at hj
  · rw [List.getLast?_eq_getElem?, show acc.length - 1 = j by omega, h] at e
    exact e rfl

theorem impl_primesOf (n : Int) (h1 : 1 ≤ n) (h2 : n ≤ 1000000) : AFun Try.prog 50 [] [I n] (.c (.slc (0, 0) (prs n).length)) [] [FI (prs n)] := by
  have hlen := fac_len h1
  refine afun_intro fn50 rfl rfl (by repeat' (first | exact trivial | (simp; done) | refine ⟨?_, ?_⟩)) ?_
  unfold ac50
  repeat' (first | ((with_reducible refine (?_ : (_ : Bool) = _)); (with_reducible rfl)) | ((with_reducible refine (?_ : (_ : Nat × Nat) = _)); (with_reducible rfl)) | (with_reducible refine leafRI ?_) | (with_reducible refine leafRB ?_) | (with_reducible refine leafI ?_) | (with_reducible refine leafB ?_) | ((with_reducible refine (?_ : (_ : Int) = _)); (with_reducible rfl)) | ((with_reducible refine (?_ : (_ : List (List Value)) = _)); (with_reducible rfl)) | ((with_reducible refine (?_ : (_ : Int) ≠ 0)); (first | assumption | omega | (simp; done) | (simp only [ints_len] at *; omega) | (simp; omega))) | ((with_reducible refine (?_ : (_ : Int) ≤ _)); (first | assumption | omega | (simp; done) | (simp only [ints_len] at *; omega) | (simp; omega))) | ((with_reducible refine (?_ : (_ : Int) < _)); (first | assumption | omega | (simp; done) | (simp only [ints_len] at *; omega) | (simp; omega))) | ((with_reducible refine (?_ : (_ : Nat) ≤ _)); (first | omega | (simp only [List.length_cons, List.length_nil]; omega) | (simp [ints]; done) | (simp; omega))) | ((with_reducible refine (?_ : (_ : Nat) < _)); (first | omega | (simp only [List.length_cons, List.length_nil]; omega) | (simp [ints]; done) | (simp; omega))) | ((with_reducible refine (?_ : (_ : Nat) = _)); (first | (with_reducible rfl) | (simp; done) | (simp only [fr_len]) | (simp only [ints_len]) | omega | (simp [*]; done))) | (refine And.intro ?_ ?_) | (intro h; first | (exact Bool.noConfusion h) | ((simp only [decide_eq_true_eq, decide_eq_false_iff_not, beq_iff_eq, bne_iff_ne, ne_eq, beq_eq_false_iff_ne, bne_eq_false_iff_eq, Bool.not_eq_true', Bool.not_eq_false', Bool.not_eq_true, Bool.not_eq_false, Int.not_le, Int.not_lt, Bool.and_eq_true, Bool.or_eq_true, Bool.or_eq_false_iff, Bool.and_eq_false_iff] at h); (try (first | (exact Bool.noConfusion h) | (exact (h trivial).elim)))) | skip) | ((refine (?_ : ACall _ _ _ _ _ _ _)); first | ((apply acall (impl_factors _ ?_ ?_)); (focus (repeat' (first | exact rfl | (refine And.intro ?_ ?_) | (simp only [ints_len]; done) | (simp; done) | omega))))) | ((with_reducible refine (?_ : chk _ _ = true)); kernel_rfl) | ((with_reducible refine (?_ : (_ : IntKind) = _)); (with_reducible rfl)) | ((with_reducible refine (?_ : eqC (C.pvw _ _ _) (C.pvw _ _ _))); exact rfl) | ((with_reducible refine (?_ : eqC (C.pv (Value.int IntKind.u64 _)) _)); exact rfl) | exact trivial)
  refine loop_rule (σ := Nat × List (List Value) × Int) (fun s => [(3, .c (.slc (6, 0) s.1)), (10, I s.2.2)]) (fun s => [((2, 0), .fl 3 1 []), ((6, 0), .fl 3 1 s.2.1), ((8, 0), .fl 3 1 (ints (fac n)))]) (fun s => s.1 = s.2.1.length ∧ 0 ≤ s.2.2 ∧ s.2.2 ≤ (fac n).length ∧ ∃ acc, s.2.1 = ints acc ∧ dd acc ((fac n).drop s.2.2.toNat) = prs n ∧ (acc.length : Int) ≤ s.2.2) (fun s => ((fac n).length - s.2.2).toNat) ((0, [], 0)) ?_ (by repeat' (first | exact trivial | exact rfl | (refine And.intro ?_ ?_))) (by repeat' (first | exact trivial | exact rfl | (refine And.intro ?_ ?_))) (fun s => ⟨rfl, rfl⟩) (fun s i h => by first | exact absurd h (Nat.not_lt_zero i) | (cases i with | zero => rfl | succ i => exact absurd (Nat.lt_of_succ_lt_succ h) (Nat.not_lt_zero i))) ?_
  · exact ⟨rfl, by dsimp only; omega, by dsimp only; omega, [], rfl, rfl, by simp⟩
  · rintro ⟨k, R, i⟩ ⟨g1, g2, g3, acc, g4, g5, g6⟩
    dsimp only at g1 g2 g3 g4 g5 g6 ⊢
    subst g4
    have g1' : k = acc.length := by rw [g1, ints_len]
    have wk : wrap64 ((k : Int) - 1) = k - 1 := wrap_small (by omega) (by omega)
    have wi : wrap64 (i + 1) = i + 1 := wrap_small (by omega) (by omega)
    have hi1 : (i + 1).toNat = i.toNat + 1 := by omega
    have hk1 : ¬ (k : Int) = 0 → (wrap64 ((k : Int) - 1)).toNat + 1 = acc.length := fun h => by omega
    repeat' (first | ((with_reducible refine (?_ : (_ : Bool) = _)); (with_reducible rfl)) | ((with_reducible refine (?_ : (_ : Nat × Nat) = _)); (with_reducible rfl)) | (with_reducible refine leafRI ?_) | (with_reducible refine leafRB ?_) | (with_reducible refine leafI ?_) | (with_reducible refine leafB ?_) | ((with_reducible refine (?_ : (_ : Int) = _)); (with_reducible rfl)) | ((with_reducible refine (?_ : (_ : List (List Value)) = _)); (with_reducible rfl)) | ((with_reducible refine (?_ : (_ : Int) ≠ 0)); (first | assumption | omega | (simp; done) | (simp only [ints_len] at *; omega) | (simp; omega))) | ((with_reducible refine (?_ : (_ : Int) ≤ _)); (first | assumption | omega | (simp; done) | (simp only [ints_len] at *; omega) | (simp; omega))) | ((with_reducible refine (?_ : (_ : Int) < _)); (first | assumption | omega | (simp; done) | (simp only [ints_len] at *; omega) | (simp; omega))) | ((with_reducible refine (?_ : (_ : Nat) ≤ _)); (first | omega | (simp only [List.length_cons, List.length_nil]; omega) | (simp [ints]; done) | (simp; omega))) | ((with_reducible refine (?_ : (_ : Nat) < _)); (first | omega | (simp only [List.length_cons, List.length_nil]; omega) | (simp [ints]; done) | (simp; omega))) | ((with_reducible refine (?_ : (_ : Nat) = _)); (first | (with_reducible rfl) | (simp; done) | (simp only [fr_len]) | (simp only [ints_len]) | omega | (simp [*]; done))) | ((with_reducible refine view_at ?_ ?_); (focus (constructor <;> (first | omega | (simp only [ints_len] at *; omega)))); intro n hn) | (refine And.intro ?_ ?_) | (intro h; first | (exact Bool.noConfusion h) | ((simp only [decide_eq_true_eq, decide_eq_false_iff_not, beq_iff_eq, bne_iff_ne, ne_eq, beq_eq_false_iff_ne, bne_eq_false_iff_eq, Bool.not_eq_true', Bool.not_eq_false', Bool.not_eq_true, Bool.not_eq_false, Int.not_le, Int.not_lt, Bool.and_eq_true, Bool.or_eq_true, Bool.or_eq_false_iff, Bool.and_eq_false_iff] at h); (try (first | (exact Bool.noConfusion h) | (exact (h trivial).elim)))) | skip) | ((with_reducible refine (?_ : chk _ _ = true)); kernel_rfl) | ((with_reducible refine (?_ : (_ : IntKind) = _)); (with_reducible rfl)) | ((with_reducible refine (?_ : eqC (C.pvw _ _ _) (C.pvw _ _ _))); exact rfl) | ((with_reducible refine (?_ : eqC (C.pv (Value.int IntKind.u64 _)) _)); exact rfl) | exact trivial)
    · have e := ddS_nil (acc := acc) (x := n) (by omega)
      refine ⟨(_, _, _), ?_, ?_, none, And.intro rfl (And.intro (by repeat' (first | exact trivial | exact rfl | (refine And.intro ?_ ?_))) (by repeat' (first | exact trivial | exact rfl | (refine And.intro ?_ ?_))))⟩
      · dsimp only
        rw [wi, hi1]
        refine ⟨by simp, by omega, by omega, acc ++ [n], by rw [ints_app]; rfl, ?_, by simp; omega⟩
        rw [← e]
        exact dd_step hn g5
      · dsimp only; omega
    · rename_i x hx hk
      have e := ddS_ne (hk1 hk) hn h
      refine ⟨(_, _, _), ?_, ?_, none, And.intro rfl (And.intro (by repeat' (first | exact trivial | exact rfl | (refine And.intro ?_ ?_))) (by repeat' (first | exact trivial | exact rfl | (refine And.intro ?_ ?_))))⟩
      · dsimp only
        rw [wi, hi1]
        refine ⟨by simp, by omega, by omega, acc ++ [x], by rw [ints_app]; rfl, ?_, by simp; omega⟩
        rw [← e]
        exact dd_step hx g5
      · dsimp only; omega
    · rename_i x hx hk
      subst h
      have e := ddS_eq (hk1 hk) hn
      refine ⟨(_, _, _), ?_, ?_, none, And.intro rfl (And.intro (by repeat' (first | exact trivial | exact rfl | (refine And.intro ?_ ?_))) (by repeat' (first | exact trivial | exact rfl | (refine And.intro ?_ ?_))))⟩
      · dsimp only
        rw [wi, hi1]
        refine ⟨g1, by omega, by omega, acc, rfl, ?_, by omega⟩
        have := dd_step hx g5
        rwa [e] at this
      · dsimp only; omega
    · rw [List.drop_eq_nil_of_le (by omega)] at g5
      rw [← show acc = prs n from g5]; exact g1'
    · rw [List.drop_eq_nil_of_le (by omega)] at g5
      rw [← show acc = prs n from g5]

/-! lists that increase -/
def put (x : Int) : List Int → List Int
  | [] => [x]
  | y :: r => if y < x then y :: put x r else if y = x then y :: r else x :: y :: r
theorem put_mem (x z : Int) : ∀ (l : List Int), z ∈ put x l ↔ z = x ∨ z ∈ l
  | [] => by simp [put]
  | y :: r => by
    have ih := put_mem x z r
    simp only [put]
    split
    · simp only [List.mem_cons, ih]
      constructor
      · rintro (h | h | h) <;> simp [h]
      · rintro (h | h | h) <;> simp [h]
    · split
      · rename_i h
        subst h
        simp
      · simp
theorem put_inc (x : Int) : ∀ (l : List Int), l.Pairwise (· < ·) → (put x l).Pairwise (· < ·)
  | [], _ => by simp [put]
  | y :: r, h => by
    obtain ⟨h1, h2⟩ := List.pairwise_cons.1 h
    simp only [put]
    split
    · rename_i hlt
      refine List.pairwise_cons.2 ⟨fun z hz => ?_, put_inc x r h2⟩
      rcases (put_mem x z r).1 hz with rfl | hz
      · exact hlt
      · exact h1 z hz
    · split
      · exact h
      · refine List.pairwise_cons.2 ⟨fun z hz => ?_, h⟩
        rcases List.mem_cons.1 hz with rfl | hz
        · omega
        · have := h1 z hz
          omega
theorem put_len (x : Int) : ∀ (l : List Int), (put x l).length ≤ l.length + 1 ∧ l.length ≤ (put x l).length
  | [] => by simp [put]
  | y :: r => by
    have ih := put_len x r
    simp only [put]
    split
    · simp only [List.length_cons]; omega
    · split <;> simp
/-- Where x goes: k elements are less than x. -/
theorem put_at (x : Int) : ∀ (l : List Int) (k : Nat), (∀ (i : Nat) y, i < k → l[i]? = some y → y < x) → k ≤ l.length → (∀ y, l[k]? = some y → ¬ y < x) →
    (l[k]? = some x → put x l = l) ∧ (¬ l[k]? = some x → put x l = l.take k ++ [x] ++ l.drop k)
  | [], k, h1, h2, h3 => by
    have : k = 0 := by simpa using h2
    subst this
    simp [put]
  | y :: r, 0, h1, h2, h3 => by
    have := h3 y rfl
    simp only [put, if_neg this]
    refine ⟨fun h => ?_, fun h => ?_⟩
    · simp only [List.getElem?_cons_zero, Option.some.injEq] at h
      rw [if_pos h]
    · simp only [List.getElem?_cons_zero, Option.some.injEq] at h
      rw [if_neg h]
      rfl
  | y :: r, k + 1, h1, h2, h3 => by
    have hy := h1 0 y (by omega) rfl
    simp only [put, if_pos hy]
    obtain ⟨q1, q2⟩ := put_at x r k (fun i z hi hz => h1 (i + 1) z (by omega) (by simpa using hz)) (by simpa using h2) (fun z hz => h3 z (by simpa using hz))
    refine ⟨fun h => ?_, fun h => ?_⟩
    · rw [q1 (by simpa using h)]
    · rw [q2 (by simpa using h)]
      rfl
theorem inc_ext : ∀ (l l' : List Int), l.Pairwise (· < ·) → l'.Pairwise (· < ·) → (∀ x, x ∈ l ↔ x ∈ l') → l = l'
  | [], [], _, _, _ => rfl
  | [], y :: r', _, _, h => absurd ((h y).2 (by simp)) (by simp)
  | y :: r, [], _, _, h => absurd ((h y).1 (by simp)) (by simp)
  | x :: r, y :: r', h1, h2, h => by
    obtain ⟨a1, a2⟩ := List.pairwise_cons.1 h1
    obtain ⟨b1, b2⟩ := List.pairwise_cons.1 h2
    have hx : x = y := by
      rcases List.mem_cons.1 ((h x).1 (by simp)) with e | e
      · exact e
      · rcases List.mem_cons.1 ((h y).2 (by simp)) with e2 | e2
        · exact e2.symm
        · have := b1 x e
          have := a1 y e2
          omega
    subst hx
    rw [inc_ext r r' a2 b2 fun z => ?_]
    constructor
    · intro hz
      rcases List.mem_cons.1 ((h z).1 (by simp [hz])) with e | e
      · have := a1 z hz; omega
      · exact e
    · intro hz
      rcases List.mem_cons.1 ((h z).2 (by simp [hz])) with e | e
      · have := b1 z hz; omega
      · exact e

theorem spec_l1PutA (l : List Int) (x : Int) (hl : l.length ≤ 100000000) (hn : put x l ≠ l) : AFun Try.prog 55 [] [Vw l, I x] (.c (.slc (0, 0) (put x l).length)) [] [FI (put x l)] := by
  have hil := ints_len l
  refine afun_intro fn55 rfl rfl (by repeat' (first | exact trivial | (simp; done) | refine ⟨?_, ?_⟩)) ?_
  unfold ac55
  repeat' (first | ((with_reducible refine (?_ : (_ : Bool) = _)); (with_reducible rfl)) | ((with_reducible refine (?_ : (_ : Nat × Nat) = _)); (with_reducible rfl)) | (with_reducible refine leafRI ?_) | (with_reducible refine leafRB ?_) | (with_reducible refine leafI ?_) | (with_reducible refine leafB ?_) | ((with_reducible refine (?_ : (_ : Int) = _)); (with_reducible rfl)) | ((with_reducible refine (?_ : (_ : List (List Value)) = _)); (with_reducible rfl)) | ((with_reducible refine (?_ : (_ : Int) ≠ 0)); (first | assumption | omega | (simp; done) | (simp only [ints_len] at *; omega) | (simp; omega))) | ((with_reducible refine (?_ : (_ : Int) ≤ _)); (first | assumption | omega | (simp; done) | (simp only [ints_len] at *; omega) | (simp; omega))) | ((with_reducible refine (?_ : (_ : Int) < _)); (first | assumption | omega | (simp; done) | (simp only [ints_len] at *; omega) | (simp; omega))) | ((with_reducible refine (?_ : (_ : Nat) ≤ _)); (first | omega | (simp only [List.length_cons, List.length_nil]; omega) | (simp [ints]; done) | (simp; omega))) | ((with_reducible refine (?_ : (_ : Nat) < _)); (first | omega | (simp only [List.length_cons, List.length_nil]; omega) | (simp [ints]; done) | (simp; omega))) | ((with_reducible refine (?_ : (_ : Nat) = _)); (first | (with_reducible rfl) | (simp; done) | (simp only [fr_len]) | (simp only [ints_len]) | omega | (simp [*]; done))) | (refine And.intro ?_ ?_) | (intro h; first | (exact Bool.noConfusion h) | ((simp only [decide_eq_true_eq, decide_eq_false_iff_not, beq_iff_eq, bne_iff_ne, ne_eq, beq_eq_false_iff_ne, bne_eq_false_iff_eq, Bool.not_eq_true', Bool.not_eq_false', Bool.not_eq_true, Bool.not_eq_false, Int.not_le, Int.not_lt, Bool.and_eq_true, Bool.or_eq_true, Bool.or_eq_false_iff, Bool.and_eq_false_iff] at h); (try (first | (exact Bool.noConfusion h) | (exact (h trivial).elim)))) | skip) | ((with_reducible refine (?_ : chk _ _ = true)); kernel_rfl) | ((with_reducible refine (?_ : (_ : IntKind) = _)); (with_reducible rfl)) | ((with_reducible refine (?_ : eqC (C.pvw _ _ _) (C.pvw _ _ _))); exact rfl) | ((with_reducible refine (?_ : eqC (C.pv (Value.int IntKind.u64 _)) _)); exact rfl) | exact trivial)
  refine loop_rule (σ := Int) (fun s => [(5, I s)]) (fun s => [((4, 0), .fl 3 1 [])]) (fun s => 0 ≤ s ∧ s ≤ l.length ∧ ∀ (i : Nat) y, i < s.toNat → l[i]? = some y → y < x) (fun s => (l.length - s).toNat) (0) ?_ (by repeat' (first | exact trivial | exact rfl | (refine And.intro ?_ ?_))) (by repeat' (first | exact trivial | exact rfl | (refine And.intro ?_ ?_))) (fun s => ⟨rfl, rfl⟩) (fun s i h => by first | exact absurd h (Nat.not_lt_zero i) | (cases i with | zero => rfl | succ i => exact absurd (Nat.lt_of_succ_lt_succ h) (Nat.not_lt_zero i))) ?_
  · exact ⟨by omega, by omega, fun i y h => by omega⟩
  · rintro k ⟨g1, g2, g3⟩
    have v0 : wrap64 (k + 1) = k + 1 := wrap_small (by omega) (by omega)
    have ie : V.c (.pv (.int .i64 k)) = .c (.pv (.int .i64 (k.toNat : Nat))) := by rw [show ((k.toNat : Nat) : Int) = k by omega]
    have nx : ∀ n, l[k.toNat]? = some n → n < x → ∀ (i : Nat) y, i < (k + 1).toNat → l[i]? = some y → y < x := fun n h1 h2 i y hi hy => by
      by_cases e : i = k.toNat
      · subst e; rw [hy] at h1; cases h1; exact h2
      · exact g3 i y (by omega) hy
    have f1 : ∀ n, l[k.toNat]? = some n → n = x → False := fun n h1 h2 => hn ((put_at x l k.toNat g3 (by omega) (fun y hy => by rw [hy] at h1; cases h1; omega)).1 (by rw [h1, h2]))
    have f2 : ((∃ n, l[k.toNat]? = some n ∧ ¬ n < x ∧ ¬ n = x) ∨ (l.length : Int) ≤ k) → put x l = l.take k.toNat ++ [x] ++ l.drop k.toNat := fun h => (put_at x l k.toNat g3 (by omega) (fun y hy => by
      rcases h with ⟨n, q1, q2, q3⟩ | h
      · rw [hy] at q1; cases q1; exact q2
      · rw [List.getElem?_eq_none (by omega)] at hy; cases hy)).2 (fun hy => by
      rcases h with ⟨n, q1, q2, q3⟩ | h
      · rw [hy] at q1; cases q1; exact q3 rfl
      · rw [List.getElem?_eq_none (by omega)] at hy; cases hy)
    have lens : (l.take k.toNat).length = k.toNat ∧ (l.drop k.toNat).length = l.length - k.toNat := by simp; omega
    clear g3
    repeat' (first | ((with_reducible refine (?_ : (_ : Bool) = _)); (with_reducible rfl)) | ((with_reducible refine (?_ : (_ : Nat × Nat) = _)); (with_reducible rfl)) | (with_reducible refine leafRI ?_) | (with_reducible refine leafRB ?_) | (with_reducible refine leafI ?_) | (with_reducible refine leafB ?_) | ((with_reducible refine (?_ : (_ : Int) = _)); (with_reducible rfl)) | ((with_reducible refine (?_ : (_ : List (List Value)) = _)); (with_reducible rfl)) | ((with_reducible refine (?_ : (_ : Int) ≠ 0)); (first | assumption | omega | (simp; done) | (simp only [ints_len] at *; omega) | (simp; omega))) | ((with_reducible refine (?_ : (_ : Int) ≤ _)); (first | assumption | omega | (simp; done) | (simp only [ints_len] at *; omega) | (simp; omega))) | ((with_reducible refine (?_ : (_ : Int) < _)); (first | assumption | omega | (simp; done) | (simp only [ints_len] at *; omega) | (simp; omega))) | ((with_reducible refine (?_ : (_ : Nat) ≤ _)); (first | omega | (simp only [List.length_cons, List.length_nil]; omega) | (simp [ints]; done) | (simp; omega))) | ((with_reducible refine (?_ : (_ : Nat) < _)); (first | omega | (simp only [List.length_cons, List.length_nil]; omega) | (simp [ints]; done) | (simp; omega))) | ((with_reducible refine (?_ : (_ : Nat) = _)); (first | (with_reducible rfl) | (simp; done) | (simp only [fr_len]) | (simp only [ints_len]) | omega | (simp [*]; done))) | ((with_reducible refine view_at ?_ ?_); (focus (constructor <;> (first | omega | (simp only [ints_len] at *; omega)))); intro n hn) | (refine And.intro ?_ ?_) | (intro h; first | (exact Bool.noConfusion h) | ((simp only [decide_eq_true_eq, decide_eq_false_iff_not, beq_iff_eq, bne_iff_ne, ne_eq, beq_eq_false_iff_ne, bne_eq_false_iff_eq, Bool.not_eq_true', Bool.not_eq_false', Bool.not_eq_true, Bool.not_eq_false, Int.not_le, Int.not_lt, Bool.and_eq_true, Bool.or_eq_true, Bool.or_eq_false_iff, Bool.and_eq_false_iff] at h); (try (first | (exact Bool.noConfusion h) | (exact (h trivial).elim)))) | skip) | ((with_reducible refine (?_ : chk _ _ = true)); kernel_rfl) | ((with_reducible refine (?_ : (_ : IntKind) = _)); (with_reducible rfl)) | ((with_reducible refine (?_ : eqC (C.pvw _ _ _) (C.pvw _ _ _))); exact rfl) | ((with_reducible refine (?_ : eqC (C.pv (Value.int IntKind.u64 _)) _)); exact rfl) | exact trivial)
    · refine ⟨_, ?_, ?_, none, And.intro rfl (And.intro (by repeat' (first | exact trivial | exact rfl | (refine And.intro ?_ ?_))) (by repeat' (first | exact trivial | exact rfl | (refine And.intro ?_ ?_))))⟩
      · rw [v0]; exact ⟨by omega, by omega, nx _ hn h⟩
      · rw [v0]; omega
    all_goals try (exfalso; exact f1 _ ‹_› h)
    all_goals try (exfalso; omega)
    · have hf := f2 (.inl ⟨n, hn, fun hc => by
        rename_i n1 hn1 hle _
        rw [hn1] at hn; cases hn; omega, h⟩)
      clear f2 nx f1
      refine ⟨0, k.toNat, by omega, by rw [ints_len]; omega, rfl, ie, ?_⟩
      repeat' (first | ((with_reducible refine (?_ : (_ : Bool) = _)); (with_reducible rfl)) | ((with_reducible refine (?_ : (_ : Nat × Nat) = _)); (with_reducible rfl)) | (with_reducible refine leafRI ?_) | (with_reducible refine leafRB ?_) | (with_reducible refine leafI ?_) | (with_reducible refine leafB ?_) | ((with_reducible refine (?_ : (_ : Int) = _)); (with_reducible rfl)) | ((with_reducible refine (?_ : (_ : List (List Value)) = _)); (with_reducible rfl)) | ((with_reducible refine (?_ : (_ : Int) ≠ 0)); (first | assumption | omega | (simp; done) | (simp only [ints_len] at *; omega) | (simp; omega))) | ((with_reducible refine (?_ : (_ : Int) ≤ _)); (first | assumption | omega | (simp; done) | (simp only [ints_len] at *; omega) | (simp; omega))) | ((with_reducible refine (?_ : (_ : Int) < _)); (first | assumption | omega | (simp; done) | (simp only [ints_len] at *; omega) | (simp; omega))) | ((with_reducible refine (?_ : (_ : Nat) ≤ _)); (first | omega | (simp only [List.length_cons, List.length_nil]; omega) | (simp [ints]; done) | (simp; omega))) | ((with_reducible refine (?_ : (_ : Nat) < _)); (first | omega | (simp only [List.length_cons, List.length_nil]; omega) | (simp [ints]; done) | (simp; omega))) | ((with_reducible refine (?_ : (_ : Nat) = _)); (first | (with_reducible rfl) | (simp; done) | (simp only [fr_len]) | (simp only [ints_len]) | omega | (simp [*]; done))) | (refine And.intro ?_ ?_) | (intro h; first | (exact Bool.noConfusion h) | ((simp only [decide_eq_true_eq, decide_eq_false_iff_not, beq_iff_eq, bne_iff_ne, ne_eq, beq_eq_false_iff_ne, bne_eq_false_iff_eq, Bool.not_eq_true', Bool.not_eq_false', Bool.not_eq_true, Bool.not_eq_false, Int.not_le, Int.not_lt, Bool.and_eq_true, Bool.or_eq_true, Bool.or_eq_false_iff, Bool.and_eq_false_iff] at h); (try (first | (exact Bool.noConfusion h) | (exact (h trivial).elim)))) | skip) | ((with_reducible refine (?_ : chk _ _ = true)); kernel_rfl) | ((with_reducible refine (?_ : (_ : IntKind) = _)); (with_reducible rfl)) | ((with_reducible refine (?_ : eqC (C.pvw _ _ _) (C.pvw _ _ _))); exact rfl) | ((with_reducible refine (?_ : eqC (C.pv (Value.int IntKind.u64 _)) _)); exact rfl) | exact trivial)
      refine ⟨k.toNat, (ints l).length, by rw [ints_len]; omega, Nat.le_refl _, ie, rfl, ?_⟩
      repeat' (first | ((with_reducible refine (?_ : (_ : Bool) = _)); (with_reducible rfl)) | ((with_reducible refine (?_ : (_ : Nat × Nat) = _)); (with_reducible rfl)) | (with_reducible refine leafRI ?_) | (with_reducible refine leafRB ?_) | (with_reducible refine leafI ?_) | (with_reducible refine leafB ?_) | ((with_reducible refine (?_ : (_ : Int) = _)); (with_reducible rfl)) | ((with_reducible refine (?_ : (_ : List (List Value)) = _)); (with_reducible rfl)) | ((with_reducible refine (?_ : (_ : Int) ≠ 0)); (first | assumption | omega | (simp; done) | (simp only [ints_len] at *; omega) | (simp; omega))) | ((with_reducible refine (?_ : (_ : Int) ≤ _)); (first | assumption | omega | (simp; done) | (simp only [ints_len] at *; omega) | (simp; omega))) | ((with_reducible refine (?_ : (_ : Int) < _)); (first | assumption | omega | (simp; done) | (simp only [ints_len] at *; omega) | (simp; omega))) | ((with_reducible refine (?_ : (_ : Nat) ≤ _)); (first | omega | (simp only [List.length_cons, List.length_nil]; omega) | (simp [ints]; done) | (simp; omega))) | ((with_reducible refine (?_ : (_ : Nat) < _)); (first | omega | (simp only [List.length_cons, List.length_nil]; omega) | (simp [ints]; done) | (simp; omega))) | ((with_reducible refine (?_ : (_ : Nat) = _)); (first | (with_reducible rfl) | (simp; done) | (simp only [fr_len]) | (simp only [ints_len]) | omega | (simp [*]; done))) | (refine And.intro ?_ ?_) | (intro h; first | (exact Bool.noConfusion h) | ((simp only [decide_eq_true_eq, decide_eq_false_iff_not, beq_iff_eq, bne_iff_ne, ne_eq, beq_eq_false_iff_ne, bne_eq_false_iff_eq, Bool.not_eq_true', Bool.not_eq_false', Bool.not_eq_true, Bool.not_eq_false, Int.not_le, Int.not_lt, Bool.and_eq_true, Bool.or_eq_true, Bool.or_eq_false_iff, Bool.and_eq_false_iff] at h); (try (first | (exact Bool.noConfusion h) | (exact (h trivial).elim)))) | skip) | ((with_reducible refine (?_ : chk _ _ = true)); kernel_rfl) | ((with_reducible refine (?_ : (_ : IntKind) = _)); (with_reducible rfl)) | ((with_reducible refine (?_ : eqC (C.pvw _ _ _) (C.pvw _ _ _))); exact rfl) | ((with_reducible refine (?_ : eqC (C.pv (Value.int IntKind.u64 _)) _)); exact rfl) | exact trivial)
      · rw [hf]; simp [ints]; omega
      · rw [hf, ints_app, ints_app, List.take_length]; simp [ints]
    · have hf := f2 (.inr (by omega))
      clear f2 nx f1
      refine ⟨0, k.toNat, by omega, by rw [ints_len]; omega, rfl, ie, ?_⟩
      repeat' (first | ((with_reducible refine (?_ : (_ : Bool) = _)); (with_reducible rfl)) | ((with_reducible refine (?_ : (_ : Nat × Nat) = _)); (with_reducible rfl)) | (with_reducible refine leafRI ?_) | (with_reducible refine leafRB ?_) | (with_reducible refine leafI ?_) | (with_reducible refine leafB ?_) | ((with_reducible refine (?_ : (_ : Int) = _)); (with_reducible rfl)) | ((with_reducible refine (?_ : (_ : List (List Value)) = _)); (with_reducible rfl)) | ((with_reducible refine (?_ : (_ : Int) ≠ 0)); (first | assumption | omega | (simp; done) | (simp only [ints_len] at *; omega) | (simp; omega))) | ((with_reducible refine (?_ : (_ : Int) ≤ _)); (first | assumption | omega | (simp; done) | (simp only [ints_len] at *; omega) | (simp; omega))) | ((with_reducible refine (?_ : (_ : Int) < _)); (first | assumption | omega | (simp; done) | (simp only [ints_len] at *; omega) | (simp; omega))) | ((with_reducible refine (?_ : (_ : Nat) ≤ _)); (first | omega | (simp only [List.length_cons, List.length_nil]; omega) | (simp [ints]; done) | (simp; omega))) | ((with_reducible refine (?_ : (_ : Nat) < _)); (first | omega | (simp only [List.length_cons, List.length_nil]; omega) | (simp [ints]; done) | (simp; omega))) | ((with_reducible refine (?_ : (_ : Nat) = _)); (first | (with_reducible rfl) | (simp; done) | (simp only [fr_len]) | (simp only [ints_len]) | omega | (simp [*]; done))) | (refine And.intro ?_ ?_) | (intro h; first | (exact Bool.noConfusion h) | ((simp only [decide_eq_true_eq, decide_eq_false_iff_not, beq_iff_eq, bne_iff_ne, ne_eq, beq_eq_false_iff_ne, bne_eq_false_iff_eq, Bool.not_eq_true', Bool.not_eq_false', Bool.not_eq_true, Bool.not_eq_false, Int.not_le, Int.not_lt, Bool.and_eq_true, Bool.or_eq_true, Bool.or_eq_false_iff, Bool.and_eq_false_iff] at h); (try (first | (exact Bool.noConfusion h) | (exact (h trivial).elim)))) | skip) | ((with_reducible refine (?_ : chk _ _ = true)); kernel_rfl) | ((with_reducible refine (?_ : (_ : IntKind) = _)); (with_reducible rfl)) | ((with_reducible refine (?_ : eqC (C.pvw _ _ _) (C.pvw _ _ _))); exact rfl) | ((with_reducible refine (?_ : eqC (C.pv (Value.int IntKind.u64 _)) _)); exact rfl) | exact trivial)
      refine ⟨k.toNat, (ints l).length, by rw [ints_len]; omega, Nat.le_refl _, ie, rfl, ?_⟩
      repeat' (first | ((with_reducible refine (?_ : (_ : Bool) = _)); (with_reducible rfl)) | ((with_reducible refine (?_ : (_ : Nat × Nat) = _)); (with_reducible rfl)) | (with_reducible refine leafRI ?_) | (with_reducible refine leafRB ?_) | (with_reducible refine leafI ?_) | (with_reducible refine leafB ?_) | ((with_reducible refine (?_ : (_ : Int) = _)); (with_reducible rfl)) | ((with_reducible refine (?_ : (_ : List (List Value)) = _)); (with_reducible rfl)) | ((with_reducible refine (?_ : (_ : Int) ≠ 0)); (first | assumption | omega | (simp; done) | (simp only [ints_len] at *; omega) | (simp; omega))) | ((with_reducible refine (?_ : (_ : Int) ≤ _)); (first | assumption | omega | (simp; done) | (simp only [ints_len] at *; omega) | (simp; omega))) | ((with_reducible refine (?_ : (_ : Int) < _)); (first | assumption | omega | (simp; done) | (simp only [ints_len] at *; omega) | (simp; omega))) | ((with_reducible refine (?_ : (_ : Nat) ≤ _)); (first | omega | (simp only [List.length_cons, List.length_nil]; omega) | (simp [ints]; done) | (simp; omega))) | ((with_reducible refine (?_ : (_ : Nat) < _)); (first | omega | (simp only [List.length_cons, List.length_nil]; omega) | (simp [ints]; done) | (simp; omega))) | ((with_reducible refine (?_ : (_ : Nat) = _)); (first | (with_reducible rfl) | (simp; done) | (simp only [fr_len]) | (simp only [ints_len]) | omega | (simp [*]; done))) | (refine And.intro ?_ ?_) | (intro h; first | (exact Bool.noConfusion h) | ((simp only [decide_eq_true_eq, decide_eq_false_iff_not, beq_iff_eq, bne_iff_ne, ne_eq, beq_eq_false_iff_ne, bne_eq_false_iff_eq, Bool.not_eq_true', Bool.not_eq_false', Bool.not_eq_true, Bool.not_eq_false, Int.not_le, Int.not_lt, Bool.and_eq_true, Bool.or_eq_true, Bool.or_eq_false_iff, Bool.and_eq_false_iff] at h); (try (first | (exact Bool.noConfusion h) | (exact (h trivial).elim)))) | skip) | ((with_reducible refine (?_ : chk _ _ = true)); kernel_rfl) | ((with_reducible refine (?_ : (_ : IntKind) = _)); (with_reducible rfl)) | ((with_reducible refine (?_ : eqC (C.pvw _ _ _) (C.pvw _ _ _))); exact rfl) | ((with_reducible refine (?_ : eqC (C.pv (Value.int IntKind.u64 _)) _)); exact rfl) | exact trivial)
      · rw [hf]; simp [ints]; omega
      · rw [hf, ints_app, ints_app, List.take_length]; simp [ints]

theorem spec_l1PutB (l : List Int) (x : Int) (hl : l.length ≤ 100000000) (hn : put x l = l) : AFun Try.prog 55 [FI l] [.c (.slc (0, 0) l.length), I x] (.c (.slc (0, 0) l.length)) [FI l] [] := by
  have hil := ints_len l
  refine afun_intro fn55 rfl rfl (by repeat' (first | exact trivial | (simp; done) | refine ⟨?_, ?_⟩)) ?_
  unfold ac55
  repeat' (first | ((with_reducible refine (?_ : (_ : Bool) = _)); (with_reducible rfl)) | ((with_reducible refine (?_ : (_ : Nat × Nat) = _)); (with_reducible rfl)) | (with_reducible refine leafRI ?_) | (with_reducible refine leafRB ?_) | (with_reducible refine leafI ?_) | (with_reducible refine leafB ?_) | ((with_reducible refine (?_ : (_ : Int) = _)); (with_reducible rfl)) | ((with_reducible refine (?_ : (_ : List (List Value)) = _)); (with_reducible rfl)) | ((with_reducible refine (?_ : (_ : Int) ≠ 0)); (first | assumption | omega | (simp; done) | (simp only [ints_len] at *; omega) | (simp; omega))) | ((with_reducible refine (?_ : (_ : Int) ≤ _)); (first | assumption | omega | (simp; done) | (simp only [ints_len] at *; omega) | (simp; omega))) | ((with_reducible refine (?_ : (_ : Int) < _)); (first | assumption | omega | (simp; done) | (simp only [ints_len] at *; omega) | (simp; omega))) | ((with_reducible refine (?_ : (_ : Nat) ≤ _)); (first | omega | (simp only [List.length_cons, List.length_nil]; omega) | (simp [ints]; done) | (simp; omega))) | ((with_reducible refine (?_ : (_ : Nat) < _)); (first | omega | (simp only [List.length_cons, List.length_nil]; omega) | (simp [ints]; done) | (simp; omega))) | ((with_reducible refine (?_ : (_ : Nat) = _)); (first | (with_reducible rfl) | (simp; done) | (simp only [fr_len]) | (simp only [ints_len]) | omega | (simp [*]; done))) | (refine And.intro ?_ ?_) | (intro h; first | (exact Bool.noConfusion h) | ((simp only [decide_eq_true_eq, decide_eq_false_iff_not, beq_iff_eq, bne_iff_ne, ne_eq, beq_eq_false_iff_ne, bne_eq_false_iff_eq, Bool.not_eq_true', Bool.not_eq_false', Bool.not_eq_true, Bool.not_eq_false, Int.not_le, Int.not_lt, Bool.and_eq_true, Bool.or_eq_true, Bool.or_eq_false_iff, Bool.and_eq_false_iff] at h); (try (first | (exact Bool.noConfusion h) | (exact (h trivial).elim)))) | skip) | ((with_reducible refine (?_ : chk _ _ = true)); kernel_rfl) | ((with_reducible refine (?_ : (_ : IntKind) = _)); (with_reducible rfl)) | ((with_reducible refine (?_ : eqC (C.pvw _ _ _) (C.pvw _ _ _))); exact rfl) | ((with_reducible refine (?_ : eqC (C.pv (Value.int IntKind.u64 _)) _)); exact rfl) | exact trivial)
  refine loop_rule (σ := Int) (fun s => [(5, I s)]) (fun s => [((0, 0), .fl 3 1 (ints l)), ((4, 0), .fl 3 1 [])]) (fun s => 0 ≤ s ∧ s ≤ l.length ∧ ∀ (i : Nat) y, i < s.toNat → l[i]? = some y → y < x) (fun s => (l.length - s).toNat) (0) ?_ (by repeat' (first | exact trivial | exact rfl | (refine And.intro ?_ ?_))) (by repeat' (first | exact trivial | exact rfl | (refine And.intro ?_ ?_))) (fun s => ⟨rfl, rfl⟩) (fun s i h => by first | exact absurd h (Nat.not_lt_zero i) | (cases i with | zero => rfl | succ i => exact absurd (Nat.lt_of_succ_lt_succ h) (Nat.not_lt_zero i))) ?_
  · exact ⟨by omega, by omega, fun i y h => by omega⟩
  · rintro k ⟨g1, g2, g3⟩
    have v0 : wrap64 (k + 1) = k + 1 := wrap_small (by omega) (by omega)
    have nx : ∀ n, l[k.toNat]? = some n → n < x → ∀ (i : Nat) y, i < (k + 1).toNat → l[i]? = some y → y < x := fun n h1 h2 i y hi hy => by
      by_cases e : i = k.toNat
      · subst e; rw [hy] at h1; cases h1; exact h2
      · exact g3 i y (by omega) hy
    have f2 : ((∃ n, l[k.toNat]? = some n ∧ ¬ n < x ∧ ¬ n = x) ∨ (l.length : Int) ≤ k) → False := fun h => by
      have := (put_at x l k.toNat g3 (by omega) (fun y hy => by
        rcases h with ⟨n, q1, q2, q3⟩ | h
        · rw [hy] at q1; cases q1; exact q2
        · rw [List.getElem?_eq_none (by omega)] at hy; cases hy)).2 (fun hy => by
        rcases h with ⟨n, q1, q2, q3⟩ | h
        · rw [hy] at q1; cases q1; exact q3 rfl
        · rw [List.getElem?_eq_none (by omega)] at hy; cases hy)
      rw [hn] at this
      have := congrArg List.length this
      simp at this
      omega
    clear g3
    repeat' (first | ((with_reducible refine (?_ : (_ : Bool) = _)); (with_reducible rfl)) | ((with_reducible refine (?_ : (_ : Nat × Nat) = _)); (with_reducible rfl)) | (with_reducible refine leafRI ?_) | (with_reducible refine leafRB ?_) | (with_reducible refine leafI ?_) | (with_reducible refine leafB ?_) | ((with_reducible refine (?_ : (_ : Int) = _)); (with_reducible rfl)) | ((with_reducible refine (?_ : (_ : List (List Value)) = _)); (with_reducible rfl)) | ((with_reducible refine (?_ : (_ : Int) ≠ 0)); (first | assumption | omega | (simp; done) | (simp only [ints_len] at *; omega) | (simp; omega))) | ((with_reducible refine (?_ : (_ : Int) ≤ _)); (first | assumption | omega | (simp; done) | (simp only [ints_len] at *; omega) | (simp; omega))) | ((with_reducible refine (?_ : (_ : Int) < _)); (first | assumption | omega | (simp; done) | (simp only [ints_len] at *; omega) | (simp; omega))) | ((with_reducible refine (?_ : (_ : Nat) ≤ _)); (first | omega | (simp only [List.length_cons, List.length_nil]; omega) | (simp [ints]; done) | (simp; omega))) | ((with_reducible refine (?_ : (_ : Nat) < _)); (first | omega | (simp only [List.length_cons, List.length_nil]; omega) | (simp [ints]; done) | (simp; omega))) | ((with_reducible refine (?_ : (_ : Nat) = _)); (first | (with_reducible rfl) | (simp; done) | (simp only [fr_len]) | (simp only [ints_len]) | omega | (simp [*]; done))) | ((with_reducible refine view_at ?_ ?_); (focus (constructor <;> (first | omega | (simp only [ints_len] at *; omega)))); intro n hn) | (refine And.intro ?_ ?_) | (intro h; first | (exact Bool.noConfusion h) | ((simp only [decide_eq_true_eq, decide_eq_false_iff_not, beq_iff_eq, bne_iff_ne, ne_eq, beq_eq_false_iff_ne, bne_eq_false_iff_eq, Bool.not_eq_true', Bool.not_eq_false', Bool.not_eq_true, Bool.not_eq_false, Int.not_le, Int.not_lt, Bool.and_eq_true, Bool.or_eq_true, Bool.or_eq_false_iff, Bool.and_eq_false_iff] at h); (try (first | (exact Bool.noConfusion h) | (exact (h trivial).elim)))) | skip) | ((with_reducible refine (?_ : chk _ _ = true)); kernel_rfl) | ((with_reducible refine (?_ : (_ : IntKind) = _)); (with_reducible rfl)) | ((with_reducible refine (?_ : eqC (C.pvw _ _ _) (C.pvw _ _ _))); exact rfl) | ((with_reducible refine (?_ : eqC (C.pv (Value.int IntKind.u64 _)) _)); exact rfl) | exact trivial)
    · refine ⟨_, ?_, ?_, none, And.intro rfl (And.intro (by repeat' (first | exact trivial | exact rfl | (refine And.intro ?_ ?_))) (by repeat' (first | exact trivial | exact rfl | (refine And.intro ?_ ?_))))⟩
      · rw [v0]; exact ⟨by omega, by omega, nx _ hn h⟩
      · rw [v0]; omega
    all_goals try (exfalso; omega)
    all_goals try (exfalso; exact f2 (.inr (by omega)))
    all_goals try (exfalso; refine f2 (.inl ⟨n, hn, fun hc => ?_, h⟩); rename_i n1 hn1 hle _; rw [hn1] at hn; cases hn; omega)

def puts (acc l : List Int) : List Int := l.foldl (fun a p => put p a) acc
theorem puts_mem (x : Int) : ∀ (l acc : List Int), x ∈ puts acc l ↔ x ∈ acc ∨ x ∈ l
  | [], acc => by simp [puts]
  | p :: l, acc => by
    rw [show puts acc (p :: l) = puts (put p acc) l from rfl, puts_mem x l, put_mem]
    simp only [List.mem_cons]
    constructor
    · rintro ((h | h) | h) <;> simp [h]
    · rintro (h | h | h) <;> simp [h]
theorem puts_inc : ∀ (l acc : List Int), acc.Pairwise (· < ·) → (puts acc l).Pairwise (· < ·)
  | [], acc, h => h
  | p :: l, acc, h => puts_inc l (put p acc) (put_inc p acc h)
theorem puts_len : ∀ (l acc : List Int), (puts acc l).length ≤ acc.length + l.length
  | [], acc => by simp [puts]
  | p :: l, acc => by
    have ih := puts_len l (put p acc)
    have := (put_len p acc).1
    rw [show puts acc (p :: l) = puts (put p acc) l from rfl]
    simp only [List.length_cons]
    omega
theorem puts_step {l acc r : List Int} {i : Nat} {x : Int} (hx : l[i]? = some x) (hd : puts acc (l.drop i) = r) : puts (put x acc) (l.drop (i + 1)) = r := by
  rw [drop_at hx] at hd
  exact hd
def nps (n : Int) : List Int := puts [] (fac n)

theorem spec_nuPrimes (n : Int) (h1 : 1 ≤ n) (h2 : n ≤ 1000000) : AFun Try.prog 53 [] [I n] (.c (.slc (0, 0) (nps n).length)) [] [FI (nps n)] := by
  have hlen := fac_len h1
  refine afun_intro fn53 rfl rfl (by repeat' (first | exact trivial | (simp; done) | refine ⟨?_, ?_⟩)) ?_
  unfold ac53
  repeat' (first | ((with_reducible refine (?_ : (_ : Bool) = _)); (with_reducible rfl)) | ((with_reducible refine (?_ : (_ : Nat × Nat) = _)); (with_reducible rfl)) | (with_reducible refine leafRI ?_) | (with_reducible refine leafRB ?_) | (with_reducible refine leafI ?_) | (with_reducible refine leafB ?_) | ((with_reducible refine (?_ : (_ : Int) = _)); (with_reducible rfl)) | ((with_reducible refine (?_ : (_ : List (List Value)) = _)); (with_reducible rfl)) | ((with_reducible refine (?_ : (_ : Int) ≠ 0)); (first | assumption | omega | (simp; done) | (simp only [ints_len] at *; omega) | (simp; omega))) | ((with_reducible refine (?_ : (_ : Int) ≤ _)); (first | assumption | omega | (simp; done) | (simp only [ints_len] at *; omega) | (simp; omega))) | ((with_reducible refine (?_ : (_ : Int) < _)); (first | assumption | omega | (simp; done) | (simp only [ints_len] at *; omega) | (simp; omega))) | ((with_reducible refine (?_ : (_ : Nat) ≤ _)); (first | omega | (simp only [List.length_cons, List.length_nil]; omega) | (simp [ints]; done) | (simp; omega))) | ((with_reducible refine (?_ : (_ : Nat) < _)); (first | omega | (simp only [List.length_cons, List.length_nil]; omega) | (simp [ints]; done) | (simp; omega))) | ((with_reducible refine (?_ : (_ : Nat) = _)); (first | (with_reducible rfl) | (simp; done) | (simp only [fr_len]) | (simp only [ints_len]) | omega | (simp [*]; done))) | (refine And.intro ?_ ?_) | (intro h; first | (exact Bool.noConfusion h) | ((simp only [decide_eq_true_eq, decide_eq_false_iff_not, beq_iff_eq, bne_iff_ne, ne_eq, beq_eq_false_iff_ne, bne_eq_false_iff_eq, Bool.not_eq_true', Bool.not_eq_false', Bool.not_eq_true, Bool.not_eq_false, Int.not_le, Int.not_lt, Bool.and_eq_true, Bool.or_eq_true, Bool.or_eq_false_iff, Bool.and_eq_false_iff] at h); (try (first | (exact Bool.noConfusion h) | (exact (h trivial).elim)))) | skip) | ((refine (?_ : ACall _ _ _ _ _ _ _)); first | ((apply acall (spec_nuFactors _ ?_ ?_)); (focus (repeat' (first | exact rfl | (refine And.intro ?_ ?_) | (simp only [ints_len]; done) | (simp; done) | omega))))) | ((with_reducible refine (?_ : chk _ _ = true)); kernel_rfl) | ((with_reducible refine (?_ : (_ : IntKind) = _)); (with_reducible rfl)) | ((with_reducible refine (?_ : eqC (C.pvw _ _ _) (C.pvw _ _ _))); exact rfl) | ((with_reducible refine (?_ : eqC (C.pv (Value.int IntKind.u64 _)) _)); exact rfl) | exact trivial)
  refine loop_rule (σ := Nat × List (List Value) × Int) (fun s => [(3, .c (.slc (3, 0) s.1)), (9, I s.2.2)]) (fun s => [((2, 0), .fl 3 1 []), ((3, 0), .fl 3 1 s.2.1), ((7, 0), .fl 3 1 (ints (fac n)))]) (fun s => s.1 = s.2.1.length ∧ 0 ≤ s.2.2 ∧ s.2.2 ≤ (fac n).length ∧ ∃ acc, s.2.1 = ints acc ∧ puts acc ((fac n).drop s.2.2.toNat) = nps n ∧ (acc.length : Int) ≤ s.2.2) (fun s => ((fac n).length - s.2.2).toNat) ((0, [], 0)) ?_ (by repeat' (first | exact trivial | exact rfl | (refine And.intro ?_ ?_))) (by repeat' (first | exact trivial | exact rfl | (refine And.intro ?_ ?_))) (fun s => ⟨rfl, rfl⟩) (fun s i h => by first | exact absurd h (Nat.not_lt_zero i) | (cases i with | zero => rfl | succ i => exact absurd (Nat.lt_of_succ_lt_succ h) (Nat.not_lt_zero i))) ?_
  · exact ⟨rfl, by dsimp only; omega, by dsimp only; omega, [], rfl, rfl, by simp⟩
  · rintro ⟨k, R, i⟩ ⟨g1, g2, g3, acc, g4, g5, g6⟩
    dsimp only at g1 g2 g3 g4 g5 g6 ⊢
    subst g4
    obtain rfl : k = acc.length := by rw [g1, ints_len]
    clear g1
    have wi : wrap64 (i + 1) = i + 1 := wrap_small (by omega) (by omega)
    have hi1 : (i + 1).toNat = i.toNat + 1 := by omega
    repeat' (first | ((with_reducible refine (?_ : (_ : Bool) = _)); (with_reducible rfl)) | ((with_reducible refine (?_ : (_ : Nat × Nat) = _)); (with_reducible rfl)) | (with_reducible refine leafRI ?_) | (with_reducible refine leafRB ?_) | (with_reducible refine leafI ?_) | (with_reducible refine leafB ?_) | ((with_reducible refine (?_ : (_ : Int) = _)); (with_reducible rfl)) | ((with_reducible refine (?_ : (_ : List (List Value)) = _)); (with_reducible rfl)) | ((with_reducible refine (?_ : (_ : Int) ≠ 0)); (first | assumption | omega | (simp; done) | (simp only [ints_len] at *; omega) | (simp; omega))) | ((with_reducible refine (?_ : (_ : Int) ≤ _)); (first | assumption | omega | (simp; done) | (simp only [ints_len] at *; omega) | (simp; omega))) | ((with_reducible refine (?_ : (_ : Int) < _)); (first | assumption | omega | (simp; done) | (simp only [ints_len] at *; omega) | (simp; omega))) | ((with_reducible refine (?_ : (_ : Nat) ≤ _)); (first | omega | (simp only [List.length_cons, List.length_nil]; omega) | (simp [ints]; done) | (simp; omega))) | ((with_reducible refine (?_ : (_ : Nat) < _)); (first | omega | (simp only [List.length_cons, List.length_nil]; omega) | (simp [ints]; done) | (simp; omega))) | ((with_reducible refine (?_ : (_ : Nat) = _)); (first | (with_reducible rfl) | (simp; done) | (simp only [fr_len]) | (simp only [ints_len]) | omega | (simp [*]; done))) | ((with_reducible refine view_at ?_ ?_); (focus (constructor <;> (first | omega | (simp only [ints_len] at *; omega)))); intro n hn) | (refine And.intro ?_ ?_) | (intro h; first | (exact Bool.noConfusion h) | ((simp only [decide_eq_true_eq, decide_eq_false_iff_not, beq_iff_eq, bne_iff_ne, ne_eq, beq_eq_false_iff_ne, bne_eq_false_iff_eq, Bool.not_eq_true', Bool.not_eq_false', Bool.not_eq_true, Bool.not_eq_false, Int.not_le, Int.not_lt, Bool.and_eq_true, Bool.or_eq_true, Bool.or_eq_false_iff, Bool.and_eq_false_iff] at h); (try (first | (exact Bool.noConfusion h) | (exact (h trivial).elim)))) | skip) | ((with_reducible refine (?_ : chk _ _ = true)); kernel_rfl) | ((with_reducible refine (?_ : (_ : IntKind) = _)); (with_reducible rfl)) | ((with_reducible refine (?_ : eqC (C.pvw _ _ _) (C.pvw _ _ _))); exact rfl) | ((with_reducible refine (?_ : eqC (C.pv (Value.int IntKind.u64 _)) _)); exact rfl) | exact trivial)
    · have st := puts_step hn g5
      have pl := (put_len n acc).1
      by_cases hp : put n acc = acc
      · repeat' (first | ((with_reducible refine (?_ : (_ : Bool) = _)); (with_reducible rfl)) | ((with_reducible refine (?_ : (_ : Nat × Nat) = _)); (with_reducible rfl)) | (with_reducible refine leafRI ?_) | (with_reducible refine leafRB ?_) | (with_reducible refine leafI ?_) | (with_reducible refine leafB ?_) | ((with_reducible refine (?_ : (_ : Int) = _)); (with_reducible rfl)) | ((with_reducible refine (?_ : (_ : List (List Value)) = _)); (with_reducible rfl)) | ((with_reducible refine (?_ : (_ : Int) ≠ 0)); (first | assumption | omega | (simp; done) | (simp only [ints_len] at *; omega) | (simp; omega))) | ((with_reducible refine (?_ : (_ : Int) ≤ _)); (first | assumption | omega | (simp; done) | (simp only [ints_len] at *; omega) | (simp; omega))) | ((with_reducible refine (?_ : (_ : Int) < _)); (first | assumption | omega | (simp; done) | (simp only [ints_len] at *; omega) | (simp; omega))) | ((with_reducible refine (?_ : (_ : Nat) ≤ _)); (first | omega | (simp only [List.length_cons, List.length_nil]; omega) | (simp [ints]; done) | (simp; omega))) | ((with_reducible refine (?_ : (_ : Nat) < _)); (first | omega | (simp only [List.length_cons, List.length_nil]; omega) | (simp [ints]; done) | (simp; omega))) | ((with_reducible refine (?_ : (_ : Nat) = _)); (first | (with_reducible rfl) | (simp; done) | (simp only [fr_len]) | (simp only [ints_len]) | omega | (simp [*]; done))) | (refine And.intro ?_ ?_) | (intro h; first | (exact Bool.noConfusion h) | ((simp only [decide_eq_true_eq, decide_eq_false_iff_not, beq_iff_eq, bne_iff_ne, ne_eq, beq_eq_false_iff_ne, bne_eq_false_iff_eq, Bool.not_eq_true', Bool.not_eq_false', Bool.not_eq_true, Bool.not_eq_false, Int.not_le, Int.not_lt, Bool.and_eq_true, Bool.or_eq_true, Bool.or_eq_false_iff, Bool.and_eq_false_iff] at h); (try (first | (exact Bool.noConfusion h) | (exact (h trivial).elim)))) | skip) | ((refine (?_ : ACall _ _ _ _ _ _ _)); first | ((apply alent (spec_l1PutB acc n (by omega) hp)); (focus (exact rfl)); (focus (repeat' (first | exact rfl | (refine And.intro ?_ ?_) | (simp only [ints_len]; done) | (simp; done) | omega))); (focus (exact rfl)))) | ((with_reducible refine (?_ : chk _ _ = true)); kernel_rfl) | ((with_reducible refine (?_ : (_ : IntKind) = _)); (with_reducible rfl)) | ((with_reducible refine (?_ : eqC (C.pvw _ _ _) (C.pvw _ _ _))); exact rfl) | ((with_reducible refine (?_ : eqC (C.pv (Value.int IntKind.u64 _)) _)); exact rfl) | exact trivial)
        refine ⟨(_, _, _), ?_, ?_, none, And.intro rfl (And.intro (by repeat' (first | exact trivial | exact rfl | (refine And.intro ?_ ?_))) (by repeat' (first | exact trivial | exact rfl | (refine And.intro ?_ ?_))))⟩
        · dsimp only
          rw [wi, hi1]
          exact ⟨(ints_len _).symm, by omega, by omega, acc, rfl, by rw [← hp]; exact st, by omega⟩
        · dsimp only; omega
      · repeat' (first | ((with_reducible refine (?_ : (_ : Bool) = _)); (with_reducible rfl)) | ((with_reducible refine (?_ : (_ : Nat × Nat) = _)); (with_reducible rfl)) | (with_reducible refine leafRI ?_) | (with_reducible refine leafRB ?_) | (with_reducible refine leafI ?_) | (with_reducible refine leafB ?_) | ((with_reducible refine (?_ : (_ : Int) = _)); (with_reducible rfl)) | ((with_reducible refine (?_ : (_ : List (List Value)) = _)); (with_reducible rfl)) | ((with_reducible refine (?_ : (_ : Int) ≠ 0)); (first | assumption | omega | (simp; done) | (simp only [ints_len] at *; omega) | (simp; omega))) | ((with_reducible refine (?_ : (_ : Int) ≤ _)); (first | assumption | omega | (simp; done) | (simp only [ints_len] at *; omega) | (simp; omega))) | ((with_reducible refine (?_ : (_ : Int) < _)); (first | assumption | omega | (simp; done) | (simp only [ints_len] at *; omega) | (simp; omega))) | ((with_reducible refine (?_ : (_ : Nat) ≤ _)); (first | omega | (simp only [List.length_cons, List.length_nil]; omega) | (simp [ints]; done) | (simp; omega))) | ((with_reducible refine (?_ : (_ : Nat) < _)); (first | omega | (simp only [List.length_cons, List.length_nil]; omega) | (simp [ints]; done) | (simp; omega))) | ((with_reducible refine (?_ : (_ : Nat) = _)); (first | (with_reducible rfl) | (simp; done) | (simp only [fr_len]) | (simp only [ints_len]) | omega | (simp [*]; done))) | (refine And.intro ?_ ?_) | (intro h; first | (exact Bool.noConfusion h) | ((simp only [decide_eq_true_eq, decide_eq_false_iff_not, beq_iff_eq, bne_iff_ne, ne_eq, beq_eq_false_iff_ne, bne_eq_false_iff_eq, Bool.not_eq_true', Bool.not_eq_false', Bool.not_eq_true, Bool.not_eq_false, Int.not_le, Int.not_lt, Bool.and_eq_true, Bool.or_eq_true, Bool.or_eq_false_iff, Bool.and_eq_false_iff] at h); (try (first | (exact Bool.noConfusion h) | (exact (h trivial).elim)))) | skip) | ((refine (?_ : ACall _ _ _ _ _ _ _)); first | ((apply acall (spec_l1PutA acc n (by omega) hp)); (focus (repeat' (first | exact rfl | (refine And.intro ?_ ?_) | (simp only [ints_len]; done) | (simp; done) | omega))))) | ((with_reducible refine (?_ : chk _ _ = true)); kernel_rfl) | ((with_reducible refine (?_ : (_ : IntKind) = _)); (with_reducible rfl)) | ((with_reducible refine (?_ : eqC (C.pvw _ _ _) (C.pvw _ _ _))); exact rfl) | ((with_reducible refine (?_ : eqC (C.pv (Value.int IntKind.u64 _)) _)); exact rfl) | exact trivial)
        refine ⟨(_, _, _), ?_, ?_, some ((3, 0), (15, 0)), And.intro rfl (And.intro (by repeat' (first | exact trivial | exact rfl | (refine And.intro ?_ ?_))) (by repeat' (first | exact trivial | exact rfl | (refine And.intro ?_ ?_))))⟩
        · dsimp only
          rw [wi, hi1]
          exact ⟨(ints_len _).symm, by omega, by omega, put n acc, rfl, st, by omega⟩
        · dsimp only; omega
    all_goals
      rw [List.drop_eq_nil_of_le (by omega)] at g5
      rw [← show acc = nps n from g5]

/-! the places of some integers -/
def plA (f : Int → List Int) (acc l : List Int) : List Int := l.foldl (fun a n => puts a (f n.natAbs)) acc
theorem plA_step {f : Int → List Int} {l acc r : List Int} {i : Nat} {x : Int} (hx : l[i]? = some x) (hd : plA f acc (l.drop i) = r) : plA f (puts acc (f x.natAbs)) (l.drop (i + 1)) = r := by
  rw [drop_at hx] at hd
  exact hd
theorem plA_mem (f : Int → List Int) (x : Int) : ∀ (l acc : List Int), x ∈ plA f acc l ↔ x ∈ acc ∨ ∃ n ∈ l, x ∈ f n.natAbs
  | [], acc => by simp [plA]
  | n :: l, acc => by
    rw [show plA f acc (n :: l) = plA f (puts acc (f n.natAbs)) l from rfl, plA_mem f x l, puts_mem]
    simp only [List.mem_cons, exists_eq_or_imp]
    constructor
    · rintro ((h | h) | h) <;> simp [h]
    · rintro (h | h | h) <;> simp [h]
theorem plA_inc (f : Int → List Int) : ∀ (l acc : List Int), acc.Pairwise (· < ·) → (plA f acc l).Pairwise (· < ·)
  | [], acc, h => h
  | n :: l, acc, h => plA_inc f l _ (puts_inc _ _ h)
def plc2 (l : List Int) : List Int := plA nps [0, 2] l
theorem nps_mem {n : Int} (h : 1 ≤ n) : ∀ x ∈ nps n, prime x = true ∧ x ≤ n ∧ n % x = 0 := fun x hx => fac_mem h x (by simpa [nps, puts_mem] using hx)
theorem nps_len {n : Int} (h : 1 ≤ n) (h2 : n ≤ 1000000) : (nps n).length ≤ 1000000 := by
  have := puts_len (fac n) []
  have := fac_len h
  unfold nps
  simp only [List.length_nil] at *
  omega

structure Lok (l : List Int) : Prop where
  len : l.length ≤ 8
  num : ∀ (i : Nat) (n : Int), l[i]? = some n → n ≠ 0 ∧ n.natAbs ≤ 1000000

theorem spec_hiPlaces (l : List Int) (hl : Lok l) : AFun Try.prog 29 [] [Vw l] (.c (.slc (0, 0) (plc2 l).length)) [] [FI (plc2 l)] := by
  have hil := ints_len l
  have hl8 := hl.len
  refine afun_intro fn29 rfl rfl (by repeat' (first | exact trivial | (simp; done) | refine ⟨?_, ?_⟩)) ?_
  unfold ac29
  repeat' (first | ((with_reducible refine (?_ : (_ : Bool) = _)); (with_reducible rfl)) | ((with_reducible refine (?_ : (_ : Nat × Nat) = _)); (with_reducible rfl)) | (with_reducible refine leafRI ?_) | (with_reducible refine leafRB ?_) | (with_reducible refine leafI ?_) | (with_reducible refine leafB ?_) | ((with_reducible refine (?_ : (_ : Int) = _)); (with_reducible rfl)) | ((with_reducible refine (?_ : (_ : List (List Value)) = _)); (with_reducible rfl)) | ((with_reducible refine (?_ : (_ : Int) ≠ 0)); (first | assumption | omega | (simp; done) | (simp only [ints_len] at *; omega) | (simp; omega))) | ((with_reducible refine (?_ : (_ : Int) ≤ _)); (first | assumption | omega | (simp; done) | (simp only [ints_len] at *; omega) | (simp; omega))) | ((with_reducible refine (?_ : (_ : Int) < _)); (first | assumption | omega | (simp; done) | (simp only [ints_len] at *; omega) | (simp; omega))) | ((with_reducible refine (?_ : (_ : Nat) ≤ _)); (first | omega | (simp only [List.length_cons, List.length_nil]; omega) | (simp [ints]; done) | (simp; omega))) | ((with_reducible refine (?_ : (_ : Nat) < _)); (first | omega | (simp only [List.length_cons, List.length_nil]; omega) | (simp [ints]; done) | (simp; omega))) | ((with_reducible refine (?_ : (_ : Nat) = _)); (first | (with_reducible rfl) | (simp; done) | (simp only [fr_len]) | (simp only [ints_len]) | omega | (simp [*]; done))) | (refine And.intro ?_ ?_) | (intro h; first | (exact Bool.noConfusion h) | ((simp only [decide_eq_true_eq, decide_eq_false_iff_not, beq_iff_eq, bne_iff_ne, ne_eq, beq_eq_false_iff_ne, bne_eq_false_iff_eq, Bool.not_eq_true', Bool.not_eq_false', Bool.not_eq_true, Bool.not_eq_false, Int.not_le, Int.not_lt, Bool.and_eq_true, Bool.or_eq_true, Bool.or_eq_false_iff, Bool.and_eq_false_iff] at h); (try (first | (exact Bool.noConfusion h) | (exact (h trivial).elim)))) | skip) | ((with_reducible refine (?_ : chk _ _ = true)); kernel_rfl) | ((with_reducible refine (?_ : (_ : IntKind) = _)); (with_reducible rfl)) | ((with_reducible refine (?_ : eqC (C.pvw _ _ _) (C.pvw _ _ _))); exact rfl) | ((with_reducible refine (?_ : eqC (C.pv (Value.int IntKind.u64 _)) _)); exact rfl) | exact trivial)
  refine loop_ruleK [8] (σ := Nat × List (List Value) × Int) (fun s => [(3, .c (.slc (8, 0) s.1)), (11, I s.2.2)]) (fun s => [((2, 0), .fl 3 1 []), ((8, 0), .fl 3 1 s.2.1)]) (fun s => s.1 = s.2.1.length ∧ 0 ≤ s.2.2 ∧ s.2.2 ≤ l.length ∧ ∃ acc, s.2.1 = ints acc ∧ plA nps acc (l.drop s.2.2.toNat) = plc2 l ∧ (acc.length : Int) ≤ 2 + 1000000 * s.2.2) (fun s => (l.length - s.2.2).toNat) ((2, ints [0, 2], 0)) ?_ (by repeat' (first | exact trivial | exact rfl | (refine And.intro ?_ ?_))) (by repeat' (first | exact trivial | exact rfl | (refine And.intro ?_ ?_))) (fun s => ⟨rfl, rfl⟩) (fun s i h => by first | exact absurd h (Nat.not_lt_zero i) | (cases i with | zero => rfl | succ i => exact absurd (Nat.lt_of_succ_lt_succ h) (Nat.not_lt_zero i))) ?_
  · exact ⟨rfl, by dsimp only; omega, by dsimp only; omega, [0, 2], rfl, rfl, by simp⟩
  · rintro ⟨k, R, i⟩ ⟨g1, g2, g3, acc, g4, g5, g6⟩
    dsimp only at g1 g2 g3 g4 g5 g6 ⊢
    subst g4
    obtain rfl : k = acc.length := by rw [g1, ints_len]
    clear g1
    have wi : wrap64 (i + 1) = i + 1 := wrap_small (by omega) (by omega)
    have hi1 : (i + 1).toNat = i.toNat + 1 := by omega
    repeat' (first | ((with_reducible refine (?_ : (_ : Bool) = _)); (with_reducible rfl)) | ((with_reducible refine (?_ : (_ : Nat × Nat) = _)); (with_reducible rfl)) | (with_reducible refine leafRI ?_) | (with_reducible refine leafRB ?_) | (with_reducible refine leafI ?_) | (with_reducible refine leafB ?_) | ((with_reducible refine (?_ : (_ : Int) = _)); (with_reducible rfl)) | ((with_reducible refine (?_ : (_ : List (List Value)) = _)); (with_reducible rfl)) | ((with_reducible refine (?_ : (_ : Int) ≠ 0)); (first | assumption | omega | (simp; done) | (simp only [ints_len] at *; omega) | (simp; omega))) | ((with_reducible refine (?_ : (_ : Int) ≤ _)); (first | assumption | omega | (simp; done) | (simp only [ints_len] at *; omega) | (simp; omega))) | ((with_reducible refine (?_ : (_ : Int) < _)); (first | assumption | omega | (simp; done) | (simp only [ints_len] at *; omega) | (simp; omega))) | ((with_reducible refine (?_ : (_ : Nat) ≤ _)); (first | omega | (simp only [List.length_cons, List.length_nil]; omega) | (simp [ints]; done) | (simp; omega))) | ((with_reducible refine (?_ : (_ : Nat) < _)); (first | omega | (simp only [List.length_cons, List.length_nil]; omega) | (simp [ints]; done) | (simp; omega))) | ((with_reducible refine (?_ : (_ : Nat) = _)); (first | (with_reducible rfl) | (simp; done) | (simp only [fr_len]) | (simp only [ints_len]) | omega | (simp [*]; done))) | ((with_reducible refine view_at ?_ ?_); (focus (constructor <;> (first | omega | (simp only [ints_len] at *; omega)))); intro n hn) | (refine And.intro ?_ ?_) | (intro h; first | (exact Bool.noConfusion h) | ((simp only [decide_eq_true_eq, decide_eq_false_iff_not, beq_iff_eq, bne_iff_ne, ne_eq, beq_eq_false_iff_ne, bne_eq_false_iff_eq, Bool.not_eq_true', Bool.not_eq_false', Bool.not_eq_true, Bool.not_eq_false, Int.not_le, Int.not_lt, Bool.and_eq_true, Bool.or_eq_true, Bool.or_eq_false_iff, Bool.and_eq_false_iff] at h); (try (first | (exact Bool.noConfusion h) | (exact (h trivial).elim)))) | skip) | ((with_reducible refine (?_ : chk _ _ = true)); kernel_rfl) | ((with_reducible refine (?_ : (_ : IntKind) = _)); (with_reducible rfl)) | ((with_reducible refine (?_ : eqC (C.pvw _ _ _) (C.pvw _ _ _))); exact rfl) | ((with_reducible refine (?_ : eqC (C.pv (Value.int IntKind.u64 _)) _)); exact rfl) | exact trivial)
    · obtain ⟨n0, n1⟩ := hl.num _ _ hn
      have st := plA_step hn g5
      have pl1 := nps_len (n := n.natAbs) (by omega) (by omega)
      have pl2 := puts_len (nps n.natAbs) acc
      have hpl := ints_len (nps n.natAbs)
      repeat' (first | ((with_reducible refine (?_ : (_ : Bool) = _)); (with_reducible rfl)) | ((with_reducible refine (?_ : (_ : Nat × Nat) = _)); (with_reducible rfl)) | (with_reducible refine leafRI ?_) | (with_reducible refine leafRB ?_) | (with_reducible refine leafI ?_) | (with_reducible refine leafB ?_) | ((with_reducible refine (?_ : (_ : Int) = _)); (with_reducible rfl)) | ((with_reducible refine (?_ : (_ : List (List Value)) = _)); (with_reducible rfl)) | ((with_reducible refine (?_ : (_ : Int) ≠ 0)); (first | assumption | omega | (simp; done) | (simp only [ints_len] at *; omega) | (simp; omega))) | ((with_reducible refine (?_ : (_ : Int) ≤ _)); (first | assumption | omega | (simp; done) | (simp only [ints_len] at *; omega) | (simp; omega))) | ((with_reducible refine (?_ : (_ : Int) < _)); (first | assumption | omega | (simp; done) | (simp only [ints_len] at *; omega) | (simp; omega))) | ((with_reducible refine (?_ : (_ : Nat) ≤ _)); (first | omega | (simp only [List.length_cons, List.length_nil]; omega) | (simp [ints]; done) | (simp; omega))) | ((with_reducible refine (?_ : (_ : Nat) < _)); (first | omega | (simp only [List.length_cons, List.length_nil]; omega) | (simp [ints]; done) | (simp; omega))) | ((with_reducible refine (?_ : (_ : Nat) = _)); (first | (with_reducible rfl) | (simp; done) | (simp only [fr_len]) | (simp only [ints_len]) | omega | (simp [*]; done))) | (refine And.intro ?_ ?_) | (intro h; first | (exact Bool.noConfusion h) | ((simp only [decide_eq_true_eq, decide_eq_false_iff_not, beq_iff_eq, bne_iff_ne, ne_eq, beq_eq_false_iff_ne, bne_eq_false_iff_eq, Bool.not_eq_true', Bool.not_eq_false', Bool.not_eq_true, Bool.not_eq_false, Int.not_le, Int.not_lt, Bool.and_eq_true, Bool.or_eq_true, Bool.or_eq_false_iff, Bool.and_eq_false_iff] at h); (try (first | (exact Bool.noConfusion h) | (exact (h trivial).elim)))) | skip) | ((refine (?_ : ACall _ _ _ _ _ _ _)); first | ((apply acall (spec_l1Abs _ ?_ ?_)); (focus (repeat' (first | exact rfl | (refine And.intro ?_ ?_) | (simp only [ints_len]; done) | (simp; done) | omega)))) | ((apply acall (spec_nuPrimes _ ?_ ?_)); (focus (repeat' (first | exact rfl | (refine And.intro ?_ ?_) | (simp only [ints_len]; done) | (simp; done) | omega))))) | ((with_reducible refine (?_ : chk _ _ = true)); kernel_rfl) | ((with_reducible refine (?_ : (_ : IntKind) = _)); (with_reducible rfl)) | ((with_reducible refine (?_ : eqC (C.pvw _ _ _) (C.pvw _ _ _))); exact rfl) | ((with_reducible refine (?_ : eqC (C.pv (Value.int IntKind.u64 _)) _)); exact rfl) | exact trivial)
      refine loop_rule (σ := Nat × List (List Value) × Int) (fun s => [(3, .c (.slc (8, 0) s.1)), (19, I s.2.2)]) (fun s => [((2, 0), .fl 3 1 []), ((8, 0), .fl 3 1 s.2.1), ((17, 0), .fl 3 1 (ints (nps n.natAbs)))]) (fun s => s.1 = s.2.1.length ∧ 0 ≤ s.2.2 ∧ s.2.2 ≤ (nps n.natAbs).length ∧ ∃ ac, s.2.1 = ints ac ∧ puts ac ((nps n.natAbs).drop s.2.2.toNat) = puts acc (nps n.natAbs) ∧ (ac.length : Int) ≤ acc.length + s.2.2) (fun s => ((nps n.natAbs).length - s.2.2).toNat) ((acc.length, ints acc, 0)) ?_ (by repeat' (first | exact trivial | exact rfl | (refine And.intro ?_ ?_))) (by repeat' (first | exact trivial | exact rfl | (refine And.intro ?_ ?_))) (fun s => ⟨rfl, rfl⟩) (fun s i h => by first | exact absurd h (Nat.not_lt_zero i) | (cases i with | zero => rfl | succ i => exact absurd (Nat.lt_of_succ_lt_succ h) (Nat.not_lt_zero i))) ?_
      · exact ⟨(ints_len _).symm, by dsimp only; omega, by dsimp only; omega, acc, rfl, rfl, by simp⟩
      · rintro ⟨k', R', j⟩ ⟨c1, c2, c3, ac, c4, c5, c6⟩
        dsimp only at c1 c2 c3 c4 c5 c6 ⊢
        subst c4
        obtain rfl : k' = ac.length := by rw [c1, ints_len]
        clear c1
        have wj : wrap64 (j + 1) = j + 1 := wrap_small (by omega) (by omega)
        have hj1 : (j + 1).toNat = j.toNat + 1 := by omega
        clear g5 hn
        repeat' (first | ((with_reducible refine (?_ : (_ : Bool) = _)); (with_reducible rfl)) | ((with_reducible refine (?_ : (_ : Nat × Nat) = _)); (with_reducible rfl)) | (with_reducible refine leafRI ?_) | (with_reducible refine leafRB ?_) | (with_reducible refine leafI ?_) | (with_reducible refine leafB ?_) | ((with_reducible refine (?_ : (_ : Int) = _)); (with_reducible rfl)) | ((with_reducible refine (?_ : (_ : List (List Value)) = _)); (with_reducible rfl)) | ((with_reducible refine (?_ : (_ : Int) ≠ 0)); (first | assumption | omega | (simp; done) | (simp only [ints_len] at *; omega) | (simp; omega))) | ((with_reducible refine (?_ : (_ : Int) ≤ _)); (first | assumption | omega | (simp; done) | (simp only [ints_len] at *; omega) | (simp; omega))) | ((with_reducible refine (?_ : (_ : Int) < _)); (first | assumption | omega | (simp; done) | (simp only [ints_len] at *; omega) | (simp; omega))) | ((with_reducible refine (?_ : (_ : Nat) ≤ _)); (first | omega | (simp only [List.length_cons, List.length_nil]; omega) | (simp [ints]; done) | (simp; omega))) | ((with_reducible refine (?_ : (_ : Nat) < _)); (first | omega | (simp only [List.length_cons, List.length_nil]; omega) | (simp [ints]; done) | (simp; omega))) | ((with_reducible refine (?_ : (_ : Nat) = _)); (first | (with_reducible rfl) | (simp; done) | (simp only [fr_len]) | (simp only [ints_len]) | omega | (simp [*]; done))) | ((with_reducible refine view_at ?_ ?_); (focus (constructor <;> (first | omega | (simp only [ints_len] at *; omega)))); intro n hn) | (refine And.intro ?_ ?_) | (intro h; first | (exact Bool.noConfusion h) | ((simp only [decide_eq_true_eq, decide_eq_false_iff_not, beq_iff_eq, bne_iff_ne, ne_eq, beq_eq_false_iff_ne, bne_eq_false_iff_eq, Bool.not_eq_true', Bool.not_eq_false', Bool.not_eq_true, Bool.not_eq_false, Int.not_le, Int.not_lt, Bool.and_eq_true, Bool.or_eq_true, Bool.or_eq_false_iff, Bool.and_eq_false_iff] at h); (try (first | (exact Bool.noConfusion h) | (exact (h trivial).elim)))) | skip) | ((with_reducible refine (?_ : chk _ _ = true)); kernel_rfl) | ((with_reducible refine (?_ : (_ : IntKind) = _)); (with_reducible rfl)) | ((with_reducible refine (?_ : eqC (C.pvw _ _ _) (C.pvw _ _ _))); exact rfl) | ((with_reducible refine (?_ : eqC (C.pv (Value.int IntKind.u64 _)) _)); exact rfl) | exact trivial)
        · have st2 := puts_step hn c5
          have pl := (put_len n ac).1
          by_cases hp : put n ac = ac
          · repeat' (first | ((with_reducible refine (?_ : (_ : Bool) = _)); (with_reducible rfl)) | ((with_reducible refine (?_ : (_ : Nat × Nat) = _)); (with_reducible rfl)) | (with_reducible refine leafRI ?_) | (with_reducible refine leafRB ?_) | (with_reducible refine leafI ?_) | (with_reducible refine leafB ?_) | ((with_reducible refine (?_ : (_ : Int) = _)); (with_reducible rfl)) | ((with_reducible refine (?_ : (_ : List (List Value)) = _)); (with_reducible rfl)) | ((with_reducible refine (?_ : (_ : Int) ≠ 0)); (first | assumption | omega | (simp; done) | (simp only [ints_len] at *; omega) | (simp; omega))) | ((with_reducible refine (?_ : (_ : Int) ≤ _)); (first | assumption | omega | (simp; done) | (simp only [ints_len] at *; omega) | (simp; omega))) | ((with_reducible refine (?_ : (_ : Int) < _)); (first | assumption | omega | (simp; done) | (simp only [ints_len] at *; omega) | (simp; omega))) | ((with_reducible refine (?_ : (_ : Nat) ≤ _)); (first | omega | (simp only [List.length_cons, List.length_nil]; omega) | (simp [ints]; done) | (simp; omega))) | ((with_reducible refine (?_ : (_ : Nat) < _)); (first | omega | (simp only [List.length_cons, List.length_nil]; omega) | (simp [ints]; done) | (simp; omega))) | ((with_reducible refine (?_ : (_ : Nat) = _)); (first | (with_reducible rfl) | (simp; done) | (simp only [fr_len]) | (simp only [ints_len]) | omega | (simp [*]; done))) | (refine And.intro ?_ ?_) | (intro h; first | (exact Bool.noConfusion h) | ((simp only [decide_eq_true_eq, decide_eq_false_iff_not, beq_iff_eq, bne_iff_ne, ne_eq, beq_eq_false_iff_ne, bne_eq_false_iff_eq, Bool.not_eq_true', Bool.not_eq_false', Bool.not_eq_true, Bool.not_eq_false, Int.not_le, Int.not_lt, Bool.and_eq_true, Bool.or_eq_true, Bool.or_eq_false_iff, Bool.and_eq_false_iff] at h); (try (first | (exact Bool.noConfusion h) | (exact (h trivial).elim)))) | skip) | ((refine (?_ : ACall _ _ _ _ _ _ _)); first | ((apply alent (spec_l1PutB ac n (by omega) hp)); (focus (exact rfl)); (focus (repeat' (first | exact rfl | (refine And.intro ?_ ?_) | (simp only [ints_len]; done) | (simp; done) | omega))); (focus (exact rfl)))) | ((with_reducible refine (?_ : chk _ _ = true)); kernel_rfl) | ((with_reducible refine (?_ : (_ : IntKind) = _)); (with_reducible rfl)) | ((with_reducible refine (?_ : eqC (C.pvw _ _ _) (C.pvw _ _ _))); exact rfl) | ((with_reducible refine (?_ : eqC (C.pv (Value.int IntKind.u64 _)) _)); exact rfl) | exact trivial)
            refine ⟨(_, _, _), ?_, ?_, none, And.intro rfl (And.intro (by repeat' (first | exact trivial | exact rfl | (refine And.intro ?_ ?_))) (by repeat' (first | exact trivial | exact rfl | (refine And.intro ?_ ?_))))⟩
            · dsimp only
              rw [wj, hj1]
              exact ⟨(ints_len _).symm, by omega, by omega, ac, rfl, by rw [← hp]; exact st2, by omega⟩
            · dsimp only; omega
          · repeat' (first | ((with_reducible refine (?_ : (_ : Bool) = _)); (with_reducible rfl)) | ((with_reducible refine (?_ : (_ : Nat × Nat) = _)); (with_reducible rfl)) | (with_reducible refine leafRI ?_) | (with_reducible refine leafRB ?_) | (with_reducible refine leafI ?_) | (with_reducible refine leafB ?_) | ((with_reducible refine (?_ : (_ : Int) = _)); (with_reducible rfl)) | ((with_reducible refine (?_ : (_ : List (List Value)) = _)); (with_reducible rfl)) | ((with_reducible refine (?_ : (_ : Int) ≠ 0)); (first | assumption | omega | (simp; done) | (simp only [ints_len] at *; omega) | (simp; omega))) | ((with_reducible refine (?_ : (_ : Int) ≤ _)); (first | assumption | omega | (simp; done) | (simp only [ints_len] at *; omega) | (simp; omega))) | ((with_reducible refine (?_ : (_ : Int) < _)); (first | assumption | omega | (simp; done) | (simp only [ints_len] at *; omega) | (simp; omega))) | ((with_reducible refine (?_ : (_ : Nat) ≤ _)); (first | omega | (simp only [List.length_cons, List.length_nil]; omega) | (simp [ints]; done) | (simp; omega))) | ((with_reducible refine (?_ : (_ : Nat) < _)); (first | omega | (simp only [List.length_cons, List.length_nil]; omega) | (simp [ints]; done) | (simp; omega))) | ((with_reducible refine (?_ : (_ : Nat) = _)); (first | (with_reducible rfl) | (simp; done) | (simp only [fr_len]) | (simp only [ints_len]) | omega | (simp [*]; done))) | (refine And.intro ?_ ?_) | (intro h; first | (exact Bool.noConfusion h) | ((simp only [decide_eq_true_eq, decide_eq_false_iff_not, beq_iff_eq, bne_iff_ne, ne_eq, beq_eq_false_iff_ne, bne_eq_false_iff_eq, Bool.not_eq_true', Bool.not_eq_false', Bool.not_eq_true, Bool.not_eq_false, Int.not_le, Int.not_lt, Bool.and_eq_true, Bool.or_eq_true, Bool.or_eq_false_iff, Bool.and_eq_false_iff] at h); (try (first | (exact Bool.noConfusion h) | (exact (h trivial).elim)))) | skip) | ((refine (?_ : ACall _ _ _ _ _ _ _)); first | ((apply acall (spec_l1PutA ac n (by omega) hp)); (focus (repeat' (first | exact rfl | (refine And.intro ?_ ?_) | (simp only [ints_len]; done) | (simp; done) | omega))))) | ((with_reducible refine (?_ : chk _ _ = true)); kernel_rfl) | ((with_reducible refine (?_ : (_ : IntKind) = _)); (with_reducible rfl)) | ((with_reducible refine (?_ : eqC (C.pvw _ _ _) (C.pvw _ _ _))); exact rfl) | ((with_reducible refine (?_ : eqC (C.pv (Value.int IntKind.u64 _)) _)); exact rfl) | exact trivial)
            refine ⟨(_, _, _), ?_, ?_, some ((8, 0), (25, 0)), And.intro rfl (And.intro (by repeat' (first | exact trivial | exact rfl | (refine And.intro ?_ ?_))) (by repeat' (first | exact trivial | exact rfl | (refine And.intro ?_ ?_))))⟩
            · dsimp only
              rw [wj, hj1]
              exact ⟨(ints_len _).symm, by omega, by omega, put n ac, rfl, st2, by omega⟩
            · dsimp only; omega
        · rw [List.drop_eq_nil_of_le (by omega)] at c5
          have e : ac = puts acc (nps n.natAbs) := c5
          subst e
          refine ⟨(_, _, _), ?_, ?_, none, And.intro rfl (And.intro (by repeat' (first | exact trivial | exact rfl | (refine And.intro ?_ ?_))) (by repeat' (first | exact trivial | exact rfl | (refine And.intro ?_ ?_))))⟩
          · dsimp only
            rw [wi, hi1]
            exact ⟨(ints_len _).symm, by omega, by omega, _, rfl, st, by omega⟩
          · dsimp only; omega
    all_goals
      rw [List.drop_eq_nil_of_le (by omega)] at g5
      rw [← show acc = plc2 l from g5]

end Go.Proofs.Ytfcndlagnhaafaa
