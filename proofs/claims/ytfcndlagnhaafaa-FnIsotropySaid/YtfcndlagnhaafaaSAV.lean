/- Several texts in one: RV, SA. -/
import Derived.Test.YtfcndlagnhaafaaRA1
import Derived.Test.YtfcndlagnhaafaaH3
import Derived.Test.YtfcndlagnhaafaaHG
import Derived.Test.YtfcndlagnhaafaaHJ
import Derived.Test.YtfcndlagnhaafaaF12
/-! Hilbert's symbol depends on classes alone; the places of -1 are even in number. Plain laws. -/
namespace Go.Proofs.Ytfcndlagnhaafaa
open Go.RowKit
set_option linter.unusedSimpArgs false
set_option linter.unusedVariables false
set_option maxRecDepth 100000

theorem hil_clas {a b p : Int} (hp : p = 0 ∨ prime p = true ∧ p ≤ 1000000) (ha : a ≠ 0) (hb : b ≠ 0) : hil a (clas b p) p = hil a b p := by
  rcases hp with rfl | ⟨hp, hle⟩
  · unfold hil clas
    simp only [if_true]
    rcases Int.lt_trichotomy b 0 with h | h | h
    · rw [Int.sign_eq_neg_one_of_neg h]; simp [h]
    · exact absurd h hb
    · rw [Int.sign_eq_one_of_pos h, if_neg (by omega), if_neg (by omega)]
  have h2 := prime_two hp
  by_cases e2 : p = 2
  · subst e2
    have o := odd_rest hb
    have e : clas b 2 = pw 2 (expo 2 b % 2).toNat * (rest 2 b % 8) := by
      unfold clas
      rw [if_neg (by omega), if_pos rfl]
      rcases (show expo 2 b % 2 = 0 ∨ expo 2 b % 2 = 1 by omega) with e | e <;> rw [e] <;> simp [pw] <;> omega
    obtain ⟨u1, u2⟩ := expo_unique (p := 2) (r := rest 2 b % 8) (by omega) (by omega) (expo 2 b % 2).toNat
    rw [hil2, hil2, e, u1, u2, ← hO_mod, ← hE_mod]
    apply hS_cg
    have q := par_ml (x := hE (rest 2 a)) (y := ((expo 2 b % 2).toNat : Int)) (z := expo 2 b) (by omega)
    rw [Int.mul_comm _ (hE (rest 2 a)), Int.mul_comm (expo 2 b) (hE (rest 2 a))]
    omega
  · have ho := prime_odd hp e2
    obtain ⟨l1, l2, l3, l4, _⟩ := lnr_spec hp e2 hle
    have x2 := J_rest hp ho hb
    obtain ⟨L, hL, hd, hJ⟩ : ∃ L, (if J (rest p b) p < 0 then lnr p else 1) = L ∧ ¬ p ∣ L ∧ J L p = J (rest p b) p := by
      rcases x2 with e | e
      · refine ⟨1, by rw [e]; rfl, nd_one hp, by rw [e, J_one (by omega)]⟩
      · refine ⟨lnr p, by rw [e]; rfl, fun hd => ?_, by rw [e, l4]⟩
        have := Int.le_of_dvd (by omega) hd
        omega
    have e : clas b p = pw p (expo p b % 2).toNat * L := by
      rw [cls2_eq (by omega) e2]
      unfold cls2
      rw [hL, Int.mul_comm]
      rcases (show expo p b % 2 = 0 ∨ expo p b % 2 = 1 by omega) with e | e <;> rw [e] <;> simp [pw]
    obtain ⟨u1, u2⟩ := expo_unique h2 hd (expo p b % 2).toNat
    rw [hil_p (by omega) e2, hil_p (by omega) e2, hS_par ho, hS_par ho, e, u1, u2, hJ, show (((expo p b % 2).toNat : Nat) : Int) % 2 = expo p b % 2 by omega]

theorem facI_all {q : Int} (hq : prime q = true) (d n : Int) (h : 2 ≤ d ∧ 1 ≤ n) (hN : Nd d n) (hd : q ∣ n) : q ∈ facI d n := by
  have q2 := prime_two hq
  have hqn := Int.le_of_dvd (by omega) hd
  by_cases h2 : n % d = 0
  · rw [facI_yes h h2]
    have hl := ediv_less h h2
    by_cases e : q = d
    · rw [e]; simp
    · have hdp := nd_prime hN h.1 h2
      have he := Int.ediv_mul_cancel (Int.dvd_of_emod_eq_zero h2)
      have hq2 : q ∣ n / d := euclid (prime_cop hq (fun hc => e (prime_dvd hq hdp hc))) (by rw [he]; exact hd)
      exact List.mem_cons_of_mem _ (facI_all hq d (n / d) ⟨h.1, hl.2⟩ (nd_div hN h2) hq2)
  · rw [facI_no h h2, facO]
    split
    · exact facI_all hq (d + 1) n ⟨by omega, h.2⟩ (nd_step hN h2) hd
    · have hn := nd_sq (by omega) (nd_step hN h2) (by omega) (by omega)
      rw [if_pos (by omega), prime_dvd hq hn hd]
      simp
termination_by (n.toNat, (n - d).toNat)
decreasing_by
  · have := ediv_less h h2
    exact Prod.Lex.left _ _ (by omega)
  · have : (d + 1) * 1 ≤ (d + 1) * (d + 1) := Int.mul_le_mul_of_nonneg_left (by omega) (by omega)
    exact Prod.Lex.right _ (by omega)
theorem fac_all {q n : Int} (h : 1 ≤ n) (hq : prime q = true) (hd : q ∣ n) : q ∈ fac n := by
  have q2 := prime_two hq
  have hqn := Int.le_of_dvd (by omega) hd
  have hN : Nd 2 n := fun q q1 q2 => by omega
  rw [fac, facO]
  split
  · exact facI_all hq 2 n ⟨by omega, h⟩ hN hd
  · have hn := nd_sq (by omega) hN (by omega) (by omega)
    rw [if_pos (by omega), prime_dvd hq hn hd]
    simp
theorem plc2_all {l : List Int} {q n : Int} (hn : n ∈ l) (h0 : n ≠ 0) (hq : prime q = true) (hd : q ∣ n) : q ∈ plc2 l := by
  unfold plc2
  rw [plA_mem]
  refine .inr ⟨n, hn, ?_⟩
  rw [nps, puts_mem]
  exact .inr (fac_all (by omega) hq (Int.dvd_natAbs.2 hd))
theorem plc2_ok {l : List Int} (h0 : ∀ n ∈ l, n ≠ 0) : SOk (plc2 l) where
  nd := (plA_inc nps l [0, 2] (by decide)).imp (fun h e => by omega)
  pl := by
    intro p hp
    rw [plc2, plA_mem] at hp
    rcases hp with hp | ⟨n, hn, hp⟩
    · simp only [List.mem_cons, List.not_mem_nil, or_false] at hp
      rcases hp with rfl | rfl
      · exact .inl rfl
      · exact .inr prime2
    · have := h0 n hn
      exact .inr (nps_mem (by omega) p hp).1
  z := by rw [plc2, plA_mem]; exact .inl (by simp)
  two := by rw [plc2, plA_mem]; exact .inl (by simp)
/-- The places of -1 are even in number. -/
theorem places_even {a b : Int} (ha : a ≠ 0) (hb : b ≠ 0) : ((plc2 [a, b]).filter fun p => decide (hil a b p < 0)).length % 2 = 0 := by
  have ok := plc2_ok (l := [a, b]) (by intro n hn; simp only [List.mem_cons, List.not_mem_nil, or_false] at hn; rcases hn with rfl | rfl <;> assumption)
  have h1 := P_all ok ha hb (fun q hq hd => plc2_all (n := a) (by simp) ha hq hd) (fun q hq hd => plc2_all (n := b) (by simp) hb hq hd)
  rw [PR_even (fun p hp => hil_pm (ok.pl p hp) ha hb)] at h1
  have e : ((plc2 [a, b]).filter fun p => decide (hil a b p < 0)) = ((plc2 [a, b]).filter fun p => decide (hil a b p = -1)) := by
    refine List.filter_congr fun p hp => ?_
    rcases hil_pm (ok.pl p hp) ha hb with e | e <;> rw [e] <;> rfl
  rw [e]
  split at h1
  · assumption
  · simp at h1

end Go.Proofs.Ytfcndlagnhaafaa

/-! Diagonal forms: the order of the coefficients, three coefficients, places that do not divide. Plain laws. -/
namespace Go.Proofs.Ytfcndlagnhaafaa
open Go.RowKit
set_option linter.unusedSimpArgs false
set_option linter.unusedVariables false
set_option maxRecDepth 100000

abbrev PlB (p : Int) : Prop := p = 0 ∨ prime p = true ∧ p ≤ 1000000

/-- a and b lie in one square class at p. -/
structure EqC (p a b : Int) : Prop where
  z : p = 0 → a.sign = b.sign
  x : p ≠ 0 → expo p a % 2 = expo p b % 2
  t : p = 2 → rest 2 a % 8 = rest 2 b % 8
  j : p ≠ 0 → p ≠ 2 → J (rest p a) p = J (rest p b) p
theorem EqC.rfl' (p a : Int) : EqC p a a := ⟨fun _ => rfl, fun _ => rfl, fun _ => rfl, fun _ _ => rfl⟩
theorem EqC.trans {p a b c : Int} (h : EqC p a b) (k : EqC p b c) : EqC p a c := ⟨fun e => (h.z e).trans (k.z e), fun e => (h.x e).trans (k.x e), fun e => (h.t e).trans (k.t e), fun e f => (h.j e f).trans (k.j e f)⟩
theorem EqC.cl {p a b : Int} (h : EqC p a b) : clas a p = clas b p := by
  unfold clas
  split
  · exact h.z ‹_›
  · rename_i h0
    have hx := h.x h0
    split
    · rename_i h2
      subst h2
      rw [h.t rfl, hx]
    · rename_i h2
      unfold cls2
      rw [h.j h0 h2, hx]
theorem EqC.mul {p a b c d : Int} (hp : PlB p) (ha : a ≠ 0) (hb : b ≠ 0) (hc : c ≠ 0) (hd : d ≠ 0) (h : EqC p a b) (k : EqC p c d) : EqC p (a * c) (b * d) := by
  rcases hp with rfl | ⟨hp, hle⟩
  · exact ⟨fun _ => by rw [Int.sign_mul, Int.sign_mul, h.z rfl, k.z rfl], fun e => absurd rfl e, fun e => absurd e (by decide), fun e => absurd rfl e⟩
  have h2 := prime_two hp
  have hn : p ≠ 0 := by omega
  obtain ⟨u1, u2⟩ := expo_mul hp ha hc
  obtain ⟨v1, v2⟩ := expo_mul hp hb hd
  refine ⟨fun e => absurd e hn, fun _ => ?_, fun e => ?_, fun _ e => ?_⟩
  · have := h.x hn
    have := k.x hn
    rw [u1, v1]; omega
  · subst e
    rw [u2, v2, Int.mul_emod, h.t rfl, k.t rfl, ← Int.mul_emod]
  · have hm := (J_ok (n := p) (by omega) (prime_odd hp e)).m
    rw [u2, v2, hm, hm, h.j hn e, k.j hn e]
theorem EqC.ne {p a : Int} (hp : PlB p) (ha : a ≠ 0) : clas a p ≠ 0 := by
  unfold clas
  split
  · rcases Int.lt_trichotomy a 0 with h | h | h
    · rw [Int.sign_eq_neg_one_of_neg h]; decide
    · exact absurd h ha
    · rw [Int.sign_eq_one_of_pos h]; decide
  rename_i h0
  obtain ⟨hp, hle⟩ : prime p = true ∧ p ≤ 1000000 := by rcases hp with e | e; exact absurd e h0; exact e
  have h2 := prime_two hp
  split
  · rename_i e
    subst e
    have o := odd_rest ha
    rcases (show expo 2 a % 2 = 0 ∨ expo 2 a % 2 = 1 by omega) with e | e <;> rw [e] <;> omega
  · rename_i e
    obtain ⟨l1, _⟩ := lnr_spec hp e hle
    unfold cls2
    refine Int.mul_ne_zero ?_ ?_ <;> split <;> omega
/-- A number and its class's representative. -/
theorem EqC.of {p a : Int} (hp : PlB p) (ha : a ≠ 0) : EqC p (clas a p) a := by
  rcases hp with rfl | ⟨hp, hle⟩
  · refine ⟨fun _ => ?_, fun e => absurd rfl e, fun e => absurd e (by decide), fun e => absurd rfl e⟩
    unfold clas
    rw [if_pos rfl, Int.sign_sign]
  have h2 := prime_two hp
  have hn : p ≠ 0 := by omega
  by_cases e2 : p = 2
  · subst e2
    have o := odd_rest ha
    have e : clas a 2 = pw 2 (expo 2 a % 2).toNat * (rest 2 a % 8) := by
      unfold clas
      rw [if_neg (by omega), if_pos rfl]
      rcases (show expo 2 a % 2 = 0 ∨ expo 2 a % 2 = 1 by omega) with e | e <;> rw [e] <;> simp [pw] <;> omega
    obtain ⟨u1, u2⟩ := expo_unique (p := 2) (r := rest 2 a % 8) (by omega) (by omega) (expo 2 a % 2).toNat
    rw [← e] at u1 u2
    exact ⟨fun e => absurd e hn, fun _ => by rw [u1]; omega, fun _ => by rw [u2]; omega, fun _ e => absurd rfl e⟩
  · have ho := prime_odd hp e2
    obtain ⟨l1, l2, l3, l4, _⟩ := lnr_spec hp e2 hle
    have x2 := J_rest hp ho ha
    obtain ⟨L, hL, hd, hJ⟩ : ∃ L, (if J (rest p a) p < 0 then lnr p else 1) = L ∧ ¬ p ∣ L ∧ J L p = J (rest p a) p := by
      rcases x2 with e | e
      · refine ⟨1, by rw [e]; rfl, nd_one hp, by rw [e, J_one (by omega)]⟩
      · refine ⟨lnr p, by rw [e]; rfl, fun hd => ?_, by rw [e, l4]⟩
        have := Int.le_of_dvd (by omega) hd
        omega
    have e : clas a p = pw p (expo p a % 2).toNat * L := by
      rw [cls2_eq (by omega) e2]
      unfold cls2
      rw [hL, Int.mul_comm]
      rcases (show expo p a % 2 = 0 ∨ expo p a % 2 = 1 by omega) with e | e <;> rw [e] <;> simp [pw]
    obtain ⟨u1, u2⟩ := expo_unique h2 hd (expo p a % 2).toNat
    rw [← e] at u1 u2
    exact ⟨fun e => absurd e hn, fun _ => by rw [u1]; omega, fun e => absurd e e2, fun _ _ => by rw [u2]; exact hJ⟩
theorem EqC.hil {p a b c : Int} (hp : PlB p) (ha : a ≠ 0) (hb : b ≠ 0) (hc : c ≠ 0) (h : EqC p b c) : hil a b p = hil a c p := by
  rw [← hil_clas hp ha hb, ← hil_clas hp ha hc, h.cl]
theorem EqC.neg {p a b : Int} (hp : PlB p) (ha : a ≠ 0) (hb : b ≠ 0) (h : EqC p a b) : EqC p (-a) (-b) := by
  rw [Int.neg_eq_neg_one_mul a, Int.neg_eq_neg_one_mul b]
  exact EqC.mul hp (by decide) (by decide) ha hb (EqC.rfl' p (-1)) h

/-! products over lists -/
def PD : List Int → Int
  | [] => 1
  | a :: l => a * PD l
theorem PD_app : ∀ l m, PD (l ++ m) = PD l * PD m
  | [], m => by simp [PD]
  | a :: l, m => by
    show a * PD (l ++ m) = a * PD l * PD m
    rw [PD_app l m, Int.mul_assoc]
theorem PD_rev : ∀ l, PD l.reverse = PD l
  | [] => rfl
  | a :: l => by
    rw [List.reverse_cons, PD_app, PD_rev l]
    simp only [PD, Int.mul_one]
    exact Int.mul_comm _ _
theorem PD_ne : ∀ {l : List Int}, (∀ n ∈ l, n ≠ 0) → PD l ≠ 0
  | [], _ => by simp [PD]
  | a :: l, h => Int.mul_ne_zero (h a (by simp)) (PD_ne fun n hn => h n (by simp [hn]))
theorem PD_ndv {p : Int} (hp : prime p = true) : ∀ {l : List Int}, (∀ n ∈ l, ¬ p ∣ n) → ¬ p ∣ PD l
  | [], _ => nd_one hp
  | a :: l, h => prime_mul hp (h a (by simp)) (PD_ndv hp fun n hn => h n (by simp [hn]))
noncomputable def Rl (p a : Int) : List Int → Int
  | [] => 1
  | x :: l => hil a x p * Rl p a l
theorem Rl_app (p a : Int) : ∀ l m, Rl p a (l ++ m) = Rl p a l * Rl p a m
  | [], m => by simp [Rl]
  | x :: l, m => by
    show hil a x p * Rl p a (l ++ m) = hil a x p * Rl p a l * Rl p a m
    rw [Rl_app p a l m, Int.mul_assoc]
theorem Rl_rev (p a : Int) : ∀ l, Rl p a l.reverse = Rl p a l
  | [] => rfl
  | x :: l => by
    rw [List.reverse_cons, Rl_app, Rl_rev p a l]
    simp only [Rl, Int.mul_one]
    exact Int.mul_comm _ _
noncomputable def HL (p : Int) : List Int → Int
  | [] => 1
  | a :: l => Rl p a l * HL p l
theorem HL_snoc (p a : Int) : ∀ l, HL p (l ++ [a]) = HL p l * Rl p a l
  | [] => by simp [HL, Rl]
  | x :: l => by
    show Rl p x (l ++ [a]) * HL p (l ++ [a]) = Rl p x l * HL p l * (hil a x p * Rl p a l)
    rw [Rl_app, HL_snoc p a l]
    simp only [Rl, Int.mul_one]
    rw [hil_symm x a p]
    ac_rfl
theorem HL_rev (p : Int) : ∀ l, HL p l.reverse = HL p l
  | [] => rfl
  | a :: l => by
    rw [List.reverse_cons, HL_snoc, HL_rev p l, Rl_rev]
    exact Int.mul_comm _ _
theorem take_snoc {l : List Int} {j : Nat} (h : j < l.length) : l.take (j + 1) = l.take j ++ [l.getD j 0] := by
  rw [List.take_add_one]
  simp [List.getD_eq_getElem?_getD, h]
theorem hsR_eq (l : List Int) (p a : Int) : ∀ j, j ≤ l.length → hsR l p a j = Rl p a (l.take j)
  | 0, _ => rfl
  | j + 1, h => by
    rw [take_snoc (by omega), Rl_app, ← hsR_eq l p a j (by omega)]
    simp [hsR, Rl]
theorem hsA_eq (l : List Int) (p : Int) : ∀ j, j ≤ l.length → hsA l p j = HL p (l.take j)
  | 0, _ => rfl
  | j + 1, h => by
    rw [take_snoc (by omega), HL_snoc, ← hsA_eq l p j (by omega), ← hsR_eq l p _ j (by omega)]
    rfl
theorem hsA_all (l : List Int) (p : Int) : hsA l p l.length = HL p l := by
  rw [hsA_eq l p _ (Nat.le_refl _), List.take_length]

theorem dgn_ne {l : List Int} (h : dgn l = true) : ∀ n ∈ l, n ≠ 0 := fun n hn => by
  obtain ⟨i, hi⟩ := List.mem_iff_getElem?.1 hn
  exact (dgn_num h i n hi).1
/-- The class of the product. -/
theorem prC_eqc {l : List Int} {p : Int} (hp : PlB p) (hn : ∀ n ∈ l, n ≠ 0) : ∀ j, j ≤ l.length → prC l p j ≠ 0 ∧ EqC p (prC l p j) (PD (l.take j)) ∧ (1 ≤ j → prC l p j = clas (PD (l.take j)) p)
  | 0, _ => ⟨by simp [prC], EqC.rfl' _ _, fun h => by omega⟩
  | j + 1, h => by
    obtain ⟨i1, i2, _⟩ := prC_eqc hp hn j (by omega)
    have hx : l.getD j 0 ≠ 0 := by
      have hj : j < l.length := by omega
      have := hn l[j] (List.getElem_mem hj)
      simpa [List.getD_eq_getElem?_getD, hj] using this
    have hP : PD (l.take j) ≠ 0 := PD_ne fun n h => hn n (List.mem_of_mem_take h)
    have c0 := EqC.ne hp hx
    have e : EqC p (prC l p j * clas (l.getD j 0) p) (PD (l.take j) * l.getD j 0) := EqC.mul hp i1 hP c0 hx i2 (EqC.of hp hx)
    have e2 : PD (l.take (j + 1)) = PD (l.take j) * l.getD j 0 := by rw [take_snoc (by omega), PD_app]; simp [PD]
    have e3 : prC l p (j + 1) = clas (prC l p j * clas (l.getD j 0) p) p := rfl
    have hm : prC l p j * clas (l.getD j 0) p ≠ 0 := Int.mul_ne_zero i1 c0
    rw [e2, e3]
    exact ⟨EqC.ne hp hm, (EqC.of hp hm).trans e, fun _ => e.cl⟩
theorem prC_all {l : List Int} {p : Int} (hp : PlB p) (h : dgn l = true) : prC l p l.length = clas (PD l) p := by
  have := (prC_eqc hp (dgn_ne h) l.length (Nat.le_refl _)).2.2 (dgn_len h).1
  rwa [List.take_length] at this

/-! the order does not matter -/
theorem dgn_rev (l : List Int) : dgn l.reverse = dgn l := by
  unfold dgn
  rw [List.all_reverse, List.length_reverse]
theorem rlB_rev (l : List Int) : rlB l.reverse = rlB l := by
  unfold rlB
  rw [List.any_reverse, List.any_reverse]
theorem haG_rev (l : List Int) (p : Int) : haG l.reverse p = haG l p := by
  unfold haG
  rw [dgn_rev]
theorem haG_ok {l : List Int} {p : Int} (h : haG l p = true) : dgn l = true ∧ PlB p := by
  unfold haG at h
  rw [Bool.and_eq_true] at h
  exact ⟨h.1, plc_ok h.2⟩
theorem haV_rev {l : List Int} {p : Int} (h : haG l p = true) : haV l.reverse p = haV l p := by
  unfold haV
  rw [haG_rev, if_pos h, if_pos h, hsA_all, hsA_all, HL_rev]
theorem iso_rev {l : List Int} {p : Int} (hp : PlB p) (hd : dgn l = true) : iso l.reverse p = iso l p := by
  unfold iso
  rw [rlB_rev, prC_all hp (by rw [dgn_rev]; exact hd), prC_all hp hd, PD_rev]
  unfold isoF
  rw [hsA_all, hsA_all, HL_rev, List.length_reverse]
theorem isV_rev {l : List Int} {p : Int} (h : haG l p = true) : isV l.reverse p = isV l p := by
  obtain ⟨hd, hp⟩ := haG_ok h
  unfold isV
  rw [haG_rev, if_pos h, if_pos h, iso_rev hp hd]

/-! three coefficients -/
noncomputable def f3 (a b c p : Int) : Int := hil a b p * hil a c p * hil b c p * hil (-1) (-(a * (b * c))) p
theorem pm_eq {x y : Int} (hx : x = 1 ∨ x = -1) (hy : y = 1 ∨ y = -1) : (!decide (x = y)) = decide (x * y = -1) := by
  rcases hx with rfl | rfl <;> rcases hy with rfl | rfl <;> rfl
theorem iso3 {a b c p : Int} (hp : PlB p) (hd : dgn [a, b, c] = true) : (!iso [a, b, c] p) = decide (f3 a b c p = -1) := by
  have hn := dgn_ne hd
  have ha := hn a (by simp)
  have hb := hn b (by simp)
  have hc := hn c (by simp)
  have hP : a * (b * c) ≠ 0 := Int.mul_ne_zero ha (Int.mul_ne_zero hb hc)
  have pl : Pl p := by rcases hp with e | e; exact .inl e; exact .inr e.1
  unfold iso
  split
  · rename_i e
    subst e
    have sg : ∀ {x y : Int}, hil x y 0 = if x < 0 ∧ y < 0 then -1 else 1 := fun {x y} => by unfold hil; rw [if_pos rfl]
    unfold f3
    simp only [sg, rlB, List.any_cons, List.any_nil, Bool.or_false]
    have k1 := mul_neg_iff ha (Int.mul_ne_zero hb hc)
    have k2 := mul_neg_iff hb hc
    have k3 : 0 < b * c ↔ ¬ b * c < 0 := by have := Int.mul_ne_zero hb hc; omega
    have k4 : -(a * (b * c)) < 0 ↔ ¬ a * (b * c) < 0 := by omega
    simp only [k4, k1, k3, k2]
    rcases Int.lt_or_gt_of_ne ha with h1 | h1 <;> rcases Int.lt_or_gt_of_ne hb with h2 | h2 <;> rcases Int.lt_or_gt_of_ne hc with h3 | h3
    all_goals (have n1 : (a < 0) = _ := propext ⟨fun h => h, fun h => h⟩)
    all_goals simp [h1, h2, h3, Int.not_lt.2 (Int.le_of_lt h1), Int.not_lt.2 (Int.le_of_lt h2), Int.not_lt.2 (Int.le_of_lt h3)]
  · have e := prC_all hp hd
    have el : ([a, b, c] : List Int).length = 3 := rfl
    unfold isoF
    rw [el]
    rw [if_neg (by omega), if_neg (by omega), if_pos (by omega)]
    rw [el] at e
    have hs := hsA_all [a, b, c] p
    rw [el] at hs
    have eP : PD [a, b, c] = a * (b * c) := by simp [PD]
    rw [eP] at e
    have hh : hil (-1) (-prC [a, b, c] p 3) p = hil (-1) (-(a * (b * c))) p := by
      rw [e]
      have := EqC.ne hp hP
      exact EqC.hil hp (by decide) (by omega) (by omega) (EqC.neg hp this hP (EqC.of hp hP))
    have eH : HL p [a, b, c] = hil a b p * hil a c p * hil b c p := by simp [HL, Rl, Int.mul_assoc]
    rw [hh, hs, eH]
    exact pm_eq (pm_mul (pm_mul (hil_pm pl ha hb) (hil_pm pl ha hc)) (hil_pm pl hb hc)) (hil_pm pl (by decide) (by omega))
theorem apV_three {l : List Int} (hl : l.length = 3) : (apV l).length % 2 = 0 := by
  unfold apV
  split
  · rename_i hG
    obtain ⟨hd, _, ok⟩ := apG_ok hG
    match l, hl with
    | [a, b, c], _ =>
      have hn := dgn_ne hd
      have ha := hn a (by simp)
      have hb := hn b (by simp)
      have hc := hn c (by simp)
      have S := plc2_ok hn
      have mem := plc2_mem ok
      have al : ∀ n ∈ [a, b, c], ∀ q, prime q = true → q ∣ n → q ∈ plc2 [a, b, c] := fun n h q hq hd => plc2_all h (hn n h) hq hd
      have hP : a * (b * c) ≠ 0 := Int.mul_ne_zero ha (Int.mul_ne_zero hb hc)
      have p1 := P_all S ha hb (al a (by simp)) (al b (by simp))
      have p2 := P_all S ha hc (al a (by simp)) (al c (by simp))
      have p3 := P_all S hb hc (al b (by simp)) (al c (by simp))
      have p4 := P_all S (a := -1) (b := -(a * (b * c))) (by decide) (by omega) (fun q hq hd => absurd hd (nd_neg1 hq)) (fun q hq hd => by
        by_cases h1 : q ∣ a
        · exact al a (by simp) q hq h1
        by_cases h2 : q ∣ b
        · exact al b (by simp) q hq h2
        by_cases h3 : q ∣ c
        · exact al c (by simp) q hq h3
        exact absurd ((Int.dvd_neg).1 hd) (prime_mul hq h1 (prime_mul hq h2 h3)))
      have pm : ∀ p ∈ plc2 [a, b, c], f3 a b c p = 1 ∨ f3 a b c p = -1 := fun p hp => by
        have pl := S.pl p hp
        exact pm_mul (pm_mul (pm_mul (hil_pm pl ha hb) (hil_pm pl ha hc)) (hil_pm pl hb hc)) (hil_pm pl (by decide) (by omega))
      have key : PR (f3 a b c) (plc2 [a, b, c]) = 1 := by
        rw [PR_mul (f := f3 a b c) (g := fun p => hil a b p * hil a c p * hil b c p) (h := hil (-1) (-(a * (b * c)))) (fun p _ => rfl), p4,
          PR_mul (f := fun p => hil a b p * hil a c p * hil b c p) (g := fun p => hil a b p * hil a c p) (h := hil b c) (fun p _ => rfl), p3,
          PR_mul (f := fun p => hil a b p * hil a c p) (g := hil a b) (h := hil a c) (fun p _ => rfl), p1, p2]
        rfl
      rw [PR_even pm] at key
      have e : (plc2 [a, b, c]).filter (fun p => !iso [a, b, c] p) = (plc2 [a, b, c]).filter (fun p => decide (f3 a b c p = -1)) :=
        List.filter_congr fun p hp => iso3 (mem p hp) hd
      rw [e]
      split at key
      · assumption
      · simp at key
  · rfl

/-! more than four -/
theorem nodup_all {l : List Int} {x : Int} (h : l.Nodup) (hx : ∀ y ∈ l, y = x) : l.length ≤ 1 := by
  match l, h, hx with
  | [], _, _ => simp
  | [_], _, _ => simp
  | a :: b :: l, h, hx =>
    have h1 := hx a (by simp)
    have h2 := hx b (by simp)
    have := (List.nodup_cons.1 h).1
    exact absurd (by rw [h1, h2]; simp) this
theorem apV_five {l : List Int} (hl : 4 < l.length) : (apV l).length ≤ 1 := by
  unfold apV
  split
  · rename_i hG
    obtain ⟨hd, _, ok⟩ := apG_ok hG
    have S := plc2_ok (dgn_ne hd)
    refine nodup_all (x := 0) (List.Nodup.sublist List.filter_sublist S.nd) fun y hy => ?_
    have hy2 := (List.mem_filter.1 hy).2
    by_cases e : y = 0
    · exact e
    · unfold iso isoF at hy2
      rw [if_neg e, if_neg (by omega), if_neg (by omega), if_neg (by omega), if_neg (by omega)] at hy2
      cases hy2
  · simp

/-! a place that does not divide -/
theorem Rl_one {p a : Int} (hp : prime p = true) (h2 : p ≠ 2) (ha : ¬ p ∣ a) : ∀ {l : List Int}, (∀ n ∈ l, ¬ p ∣ n) → Rl p a l = 1
  | [], _ => rfl
  | x :: l, h => by
    show hil a x p * Rl p a l = 1
    rw [hil_triv hp h2 ha (h x (by simp)), Rl_one hp h2 ha fun n hn => h n (by simp [hn])]
    rfl
theorem HL_one {p : Int} (hp : prime p = true) (h2 : p ≠ 2) : ∀ {l : List Int}, (∀ n ∈ l, ¬ p ∣ n) → HL p l = 1
  | [], _ => rfl
  | x :: l, h => by
    show Rl p x l * HL p l = 1
    rw [Rl_one hp h2 (h x (by simp)) fun n hn => h n (by simp [hn]), HL_one hp h2 fun n hn => h n (by simp [hn])]
    rfl
theorem apV_mem {l : List Int} {p : Int} (h1 : apG l = true) (h2 : haG l p = true) : decide (p ∈ apV l) = !isV l p := by
  obtain ⟨hd, h3, ok⟩ := apG_ok h1
  obtain ⟨_, hp⟩ := haG_ok h2
  have e : isV l p = iso l p := by unfold isV; rw [if_pos h2]
  rw [e, apV, if_pos h1, Bool.eq_iff_iff, decide_eq_true_eq, List.mem_filter]
  constructor
  · exact fun h => h.2
  · intro h
    refine ⟨?_, h⟩
    by_cases hm : p ∈ plc2 l
    · exact hm
    exfalso
    have S := plc2_ok (dgn_ne hd)
    have p0 : p ≠ 0 := fun e => hm (e ▸ S.z)
    have p2 : p ≠ 2 := fun e => hm (e ▸ S.two)
    obtain ⟨hp', hle⟩ : prime p = true ∧ p ≤ 1000000 := by rcases hp with e | e; exact absurd e p0; exact e
    have nd : ∀ n ∈ l, ¬ p ∣ n := fun n hn hd' => hm (plc2_all hn (dgn_ne hd n hn) hp' hd')
    have hs : hsA l p l.length = 1 := by rw [hsA_all, HL_one hp' p2 nd]
    have hP := PD_ne (dgn_ne hd)
    have c0 := EqC.ne hp hP
    have hh : hil (-1) (-prC l p l.length) p = 1 := by
      rw [prC_all hp hd]
      rw [EqC.hil hp (by decide) (by omega) (by omega : -PD l ≠ 0) (EqC.neg hp c0 hP (EqC.of hp hP))]
      exact hil_triv hp' p2 (nd_neg1 hp') (fun h => PD_ndv hp' nd ((Int.dvd_neg).1 h))
    have h4 : hil (-1) (-1) p = 1 := hil_triv hp' p2 (nd_neg1 hp') (nd_neg1 hp')
    have key : iso l p = true := by
      unfold iso isoF
      rw [if_neg p0, if_neg (by omega), if_neg (by omega), hs, hh, h4]
      split
      · rfl
      split
      · simp
      · rfl
    rw [key] at h
    cases h

/-! solutions modulo a power -/
theorem least_of {P : Int → Prop} : ∀ (n : Nat) (i : Int), 0 ≤ i → i < n → P i → ∃ k, 0 ≤ k ∧ P k ∧ ∀ j, 0 ≤ j → j < k → ¬ P j
  | 0, i, h0, h1, _ => by omega
  | n + 1, i, h0, h1, h => by
    by_cases hc : ∃ j, 0 ≤ j ∧ j < i ∧ P j
    · obtain ⟨j, j0, j1, j2⟩ := hc
      exact least_of n j j0 (by omega) j2
    · exact ⟨i, h0, h, fun j j0 j1 j2 => hc ⟨j, j0, j1, j2⟩⟩
theorem sm_ok {a b p k : Int} (h : smB a b p k = true) : (sv a b (smX a b p k).1 (smX a b p k).2.1 (smX a b p k).2.2).tmod (p ^ k.toNat) = 0 ∧ 1 ≤ k ∧ 2 ≤ p ∧ p ^ k.toNat ≤ 64 := by
  have h' := h
  unfold smB at h'
  rw [Bool.and_eq_true] at h'
  obtain ⟨hg, hx⟩ := h'
  simp only [exI, decide_eq_true_eq] at hx
  obtain ⟨i, i0, i1, i2⟩ := hx
  obtain ⟨q, q0, q1, q2⟩ := least_of (i.toNat + 1) i i0 (by omega) i2
  have e : smI a b p k = q := firstI_eq q0 q1 q2
  unfold smG at hg
  simp only [Bool.and_eq_true, decide_eq_true_eq] at hg
  rw [smX, if_pos h, e]
  exact ⟨q1.2, by omega, prime_two (by grind), by omega⟩
end Go.Proofs.Ytfcndlagnhaafaa
