/- Several texts in one: RV, RW. -/
import Derived.Test.YtkadphmllejmdaaRA1
import Derived.Test.YtkadphmllejmdaaH3
import Derived.Test.YtkadphmllejmdaaHG
import Derived.Test.YtkadphmllejmdaaHJ
import Derived.Test.YtkadphmllejmdaaQA
/-! Hilbert's symbol depends on classes alone; the places of -1 are even in number. Plain laws. -/
namespace Go.Proofs.Ytkadphmllejmdaa
open Go.RowKit
set_option linter.unusedSimpArgs false
set_option linter.unusedVariables false
set_option maxRecDepth 100000

theorem hil_clas {a b p : Int} (hp : p = 0 ∨ prime p = true ∧ p ≤ 1000000) (ha : a ≠ 0) (hb : b ≠ 0) : hil a (clas b p) p = hil a b p := by
  rcases hp with rfl | ⟨hp, hle⟩
  · unfold hil clas
    simp only [if_true]
    rcases Int.lt_trichotomy b 0 with h | h | h
    · rw [Int.sign_eq_neg_one_of_neg h]; simp [h]
    · exact absurd h hb
    · rw [Int.sign_eq_one_of_pos h, if_neg (by omega), if_neg (by omega)]
  have h2 := prime_two hp
  by_cases e2 : p = 2
  · subst e2
    have o := odd_rest hb
    have e : clas b 2 = pw 2 (expo 2 b % 2).toNat * (rest 2 b % 8) := by
      unfold clas
      rw [if_neg (by omega), if_pos rfl]
      rcases (show expo 2 b % 2 = 0 ∨ expo 2 b % 2 = 1 by omega) with e | e <;> rw [e] <;> simp [pw] <;> omega
    obtain ⟨u1, u2⟩ := expo_unique (p := 2) (r := rest 2 b % 8) (by omega) (by omega) (expo 2 b % 2).toNat
    rw [hil2, hil2, e, u1, u2, ← hO_mod, ← hE_mod]
    apply hS_cg
    have q := par_ml (x := hE (rest 2 a)) (y := ((expo 2 b % 2).toNat : Int)) (z := expo 2 b) (by omega)
    rw [Int.mul_comm _ (hE (rest 2 a)), Int.mul_comm (expo 2 b) (hE (rest 2 a))]
    omega
  · have ho := prime_odd hp e2
    obtain ⟨l1, l2, l3, l4, _⟩ := lnr_spec hp e2 hle
    have x2 := J_rest hp ho hb
    obtain ⟨L, hL, hd, hJ⟩ : ∃ L, (if J (rest p b) p < 0 then lnr p else 1) = L ∧ ¬ p ∣ L ∧ J L p = J (rest p b) p := by
      rcases x2 with e | e
      · refine ⟨1, by rw [e]; rfl, nd_one hp, by rw [e, J_one (by omega)]⟩
      · refine ⟨lnr p, by rw [e]; rfl, fun hd => ?_, by rw [e, l4]⟩
        have := Int.le_of_dvd (by omega) hd
        omega
    have e : clas b p = pw p (expo p b % 2).toNat * L := by
      rw [cls2_eq (by omega) e2]
      unfold cls2
      rw [hL, Int.mul_comm]
      rcases (show expo p b % 2 = 0 ∨ expo p b % 2 = 1 by omega) with e | e <;> rw [e] <;> simp [pw]
    obtain ⟨u1, u2⟩ := expo_unique h2 hd (expo p b % 2).toNat
    rw [hil_p (by omega) e2, hil_p (by omega) e2, hS_par ho, hS_par ho, e, u1, u2, hJ, show (((expo p b % 2).toNat : Nat) : Int) % 2 = expo p b % 2 by omega]

theorem facI_all {q : Int} (hq : prime q = true) (d n : Int) (h : 2 ≤ d ∧ 1 ≤ n) (hN : Nd d n) (hd : q ∣ n) : q ∈ facI d n := by
  have q2 := prime_two hq
  have hqn := Int.le_of_dvd (by omega) hd
  by_cases h2 : n % d = 0
  · rw [facI_yes h h2]
    have hl := ediv_less h h2
    by_cases e : q = d
    · rw [e]; simp
    · have hdp := nd_prime hN h.1 h2
      have he := Int.ediv_mul_cancel (Int.dvd_of_emod_eq_zero h2)
      have hq2 : q ∣ n / d := euclid (prime_cop hq (fun hc => e (prime_dvd hq hdp hc))) (by rw [he]; exact hd)
      exact List.mem_cons_of_mem _ (facI_all hq d (n / d) ⟨h.1, hl.2⟩ (nd_div hN h2) hq2)
  · rw [facI_no h h2, facO]
    split
    · exact facI_all hq (d + 1) n ⟨by omega, h.2⟩ (nd_step hN h2) hd
    · have hn := nd_sq (by omega) (nd_step hN h2) (by omega) (by omega)
      rw [if_pos (by omega), prime_dvd hq hn hd]
      simp
termination_by (n.toNat, (n - d).toNat)
decreasing_by
  · have := ediv_less h h2
    exact Prod.Lex.left _ _ (by omega)
  · have : (d + 1) * 1 ≤ (d + 1) * (d + 1) := Int.mul_le_mul_of_nonneg_left (by omega) (by omega)
    exact Prod.Lex.right _ (by omega)
theorem fac_all {q n : Int} (h : 1 ≤ n) (hq : prime q = true) (hd : q ∣ n) : q ∈ fac n := by
  have q2 := prime_two hq
  have hqn := Int.le_of_dvd (by omega) hd
  have hN : Nd 2 n := fun q q1 q2 => by omega
  rw [fac, facO]
  split
  · exact facI_all hq 2 n ⟨by omega, h⟩ hN hd
  · have hn := nd_sq (by omega) hN (by omega) (by omega)
    rw [if_pos (by omega), prime_dvd hq hn hd]
    simp
theorem plc2_all {l : List Int} {q n : Int} (hn : n ∈ l) (h0 : n ≠ 0) (hq : prime q = true) (hd : q ∣ n) : q ∈ plc2 l := by
  unfold plc2
  rw [plA_mem]
  refine .inr ⟨n, hn, ?_⟩
  rw [nps, puts_mem]
  exact .inr (fac_all (by omega) hq (Int.dvd_natAbs.2 hd))
theorem plc2_ok {l : List Int} (h0 : ∀ n ∈ l, n ≠ 0) : SOk (plc2 l) where
  nd := (plA_inc nps l [0, 2] (by decide)).imp (fun h e => by omega)
  pl := by
    intro p hp
    rw [plc2, plA_mem] at hp
    rcases hp with hp | ⟨n, hn, hp⟩
    · simp only [List.mem_cons, List.not_mem_nil, or_false] at hp
      rcases hp with rfl | rfl
      · exact .inl rfl
      · exact .inr prime2
    · have := h0 n hn
      exact .inr (nps_mem (by omega) p hp).1
  z := by rw [plc2, plA_mem]; exact .inl (by simp)
  two := by rw [plc2, plA_mem]; exact .inl (by simp)
/-- The places of -1 are even in number. -/
theorem places_even {a b : Int} (ha : a ≠ 0) (hb : b ≠ 0) : ((plc2 [a, b]).filter fun p => decide (hil a b p < 0)).length % 2 = 0 := by
  have ok := plc2_ok (l := [a, b]) (by intro n hn; simp only [List.mem_cons, List.not_mem_nil, or_false] at hn; rcases hn with rfl | rfl <;> assumption)
  have h1 := P_all ok ha hb (fun q hq hd => plc2_all (n := a) (by simp) ha hq hd) (fun q hq hd => plc2_all (n := b) (by simp) hb hq hd)
  rw [PR_even (fun p hp => hil_pm (ok.pl p hp) ha hb)] at h1
  have e : ((plc2 [a, b]).filter fun p => decide (hil a b p < 0)) = ((plc2 [a, b]).filter fun p => decide (hil a b p = -1)) := by
    refine List.filter_congr fun p hp => ?_
    rcases hil_pm (ok.pl p hp) ha hb with e | e <;> rw [e] <;> rfl
  rw [e]
  split at h1
  · assumption
  · simp at h1

end Go.Proofs.Ytkadphmllejmdaa

/-! The law on Hilbert's symbols. -/
namespace Go.Proofs.Ytkadphmllejmdaa
open Go.RowKit
set_option linter.unusedSimpArgs false
set_option linter.unusedVariables false
set_option maxRecDepth 100000
set_option maxHeartbeats 2000000

abbrev By (v : Value) (l : List Int) : V := .c (.pvw v 1 (byts l))
theorem laws_big (v v' : Value) (l l' : List Int) (h : l.length ≤ 9223372036854775807) : AFun Try.prog 4 [] [By v l, By v' l'] (Bo (decide (1048576 < l.length) || decide (1048576 - l.length < l'.length))) [] [] := by
  have e1 := byts_len l
  have e2 := byts_len l'
  refine afun_intro fn4 rfl rfl (by repeat' (first | exact trivial | (simp; done) | refine ⟨?_, ?_⟩)) ?_
  unfold ac4
  repeat' (first | ((with_reducible refine (?_ : (_ : Bool) = _)); (with_reducible rfl)) | ((with_reducible refine (?_ : (_ : Nat × Nat) = _)); (with_reducible rfl)) | (with_reducible refine leafRI ?_) | (with_reducible refine leafRB ?_) | (with_reducible refine leafI ?_) | (with_reducible refine leafB ?_) | ((with_reducible refine (?_ : (_ : Int) = _)); (with_reducible rfl)) | ((with_reducible refine (?_ : (_ : List (List Value)) = _)); (with_reducible rfl)) | ((with_reducible refine (?_ : (_ : Int) ≠ 0)); (first | assumption | omega | (simp; done) | (simp only [ints_len] at *; omega) | (simp; omega))) | ((with_reducible refine (?_ : (_ : Int) ≤ _)); (first | assumption | omega | (simp; done) | (simp only [ints_len] at *; omega) | (simp; omega))) | ((with_reducible refine (?_ : (_ : Int) < _)); (first | assumption | omega | (simp; done) | (simp only [ints_len] at *; omega) | (simp; omega))) | ((with_reducible refine (?_ : (_ : Nat) ≤ _)); (first | omega | (simp only [List.length_cons, List.length_nil]; omega) | (simp [ints]; done) | (simp; omega))) | ((with_reducible refine (?_ : (_ : Nat) < _)); (first | omega | (simp only [List.length_cons, List.length_nil]; omega) | (simp [ints]; done) | (simp; omega))) | ((with_reducible refine (?_ : (_ : Nat) = _)); (first | (with_reducible rfl) | (simp; done) | (simp only [fr_len]) | (simp only [ints_len]) | omega | (simp [*]; done))) | (refine And.intro ?_ ?_) | (intro h; first | (exact Bool.noConfusion h) | ((simp only [decide_eq_true_eq, decide_eq_false_iff_not, beq_iff_eq, bne_iff_ne, ne_eq, beq_eq_false_iff_ne, bne_eq_false_iff_eq, Bool.not_eq_true', Bool.not_eq_false', Bool.not_eq_true, Bool.not_eq_false, Int.not_le, Int.not_lt, Bool.and_eq_true, Bool.or_eq_true, Bool.or_eq_false_iff, Bool.and_eq_false_iff] at h); (try (first | (exact Bool.noConfusion h) | (exact (h trivial).elim)))) | skip) | ((with_reducible refine (?_ : chk _ _ = true)); kernel_rfl) | ((with_reducible refine (?_ : (_ : IntKind) = _)); (with_reducible rfl)) | ((with_reducible refine (?_ : eqC (C.pvw _ _ _) (C.pvw _ _ _))); exact rfl) | ((with_reducible refine (?_ : eqC (C.pv (Value.int IntKind.u64 _)) _)); exact rfl) | exact trivial)
  · symm
    rw [Bool.or_eq_true]
    exact .inl (by rw [decide_eq_true_eq]; omega)
  · rw [wrap_small (by omega) (by omega), Bool.eq_iff_iff]
    simp only [Bool.or_eq_true, decide_eq_true_eq]
    omega

theorem laws_sameInts (a b : List Int) (ha : a.length ≤ 1000000000) (hb : b.length ≤ 1000000000) : AFun Try.prog 13 [] [Vw a, Vw b] (Bo (decide (a = b))) [] [] := by
  refine afun_intro fn13 rfl rfl (by repeat' (first | exact trivial | (simp; done) | refine ⟨?_, ?_⟩)) ?_
  unfold ac13
  have e1 := ints_len a
  have e2 := ints_len b
  repeat' (first | ((with_reducible refine (?_ : (_ : Bool) = _)); (with_reducible rfl)) | ((with_reducible refine (?_ : (_ : Nat × Nat) = _)); (with_reducible rfl)) | (with_reducible refine leafRI ?_) | (with_reducible refine leafRB ?_) | (with_reducible refine leafI ?_) | (with_reducible refine leafB ?_) | ((with_reducible refine (?_ : (_ : Int) = _)); (with_reducible rfl)) | ((with_reducible refine (?_ : (_ : List (List Value)) = _)); (with_reducible rfl)) | ((with_reducible refine (?_ : (_ : Int) ≠ 0)); (first | assumption | omega | (simp; done) | (simp only [ints_len] at *; omega) | (simp; omega))) | ((with_reducible refine (?_ : (_ : Int) ≤ _)); (first | assumption | omega | (simp; done) | (simp only [ints_len] at *; omega) | (simp; omega))) | ((with_reducible refine (?_ : (_ : Int) < _)); (first | assumption | omega | (simp; done) | (simp only [ints_len] at *; omega) | (simp; omega))) | ((with_reducible refine (?_ : (_ : Nat) ≤ _)); (first | omega | (simp only [List.length_cons, List.length_nil]; omega) | (simp [ints]; done) | (simp; omega))) | ((with_reducible refine (?_ : (_ : Nat) < _)); (first | omega | (simp only [List.length_cons, List.length_nil]; omega) | (simp [ints]; done) | (simp; omega))) | ((with_reducible refine (?_ : (_ : Nat) = _)); (first | (with_reducible rfl) | (simp; done) | (simp only [fr_len]) | (simp only [ints_len]) | omega | (simp [*]; done))) | (refine And.intro ?_ ?_) | (intro h; first | (exact Bool.noConfusion h) | ((simp only [decide_eq_true_eq, decide_eq_false_iff_not, beq_iff_eq, bne_iff_ne, ne_eq, beq_eq_false_iff_ne, bne_eq_false_iff_eq, Bool.not_eq_true', Bool.not_eq_false', Bool.not_eq_true, Bool.not_eq_false, Int.not_le, Int.not_lt, Bool.and_eq_true, Bool.or_eq_true, Bool.or_eq_false_iff, Bool.and_eq_false_iff] at h); (try (first | (exact Bool.noConfusion h) | (exact (h trivial).elim)))) | skip) | ((with_reducible refine (?_ : chk _ _ = true)); kernel_rfl) | ((with_reducible refine (?_ : (_ : IntKind) = _)); (with_reducible rfl)) | ((with_reducible refine (?_ : eqC (C.pvw _ _ _) (C.pvw _ _ _))); exact rfl) | ((with_reducible refine (?_ : eqC (C.pv (Value.int IntKind.u64 _)) _)); exact rfl) | exact trivial)
  · symm
    rw [decide_eq_false_iff_not]
    rintro rfl
    omega
  refine loop_rule (σ := Int) (fun s => [(13, I s)]) (fun _ => []) (fun s => 0 ≤ s ∧ s ≤ a.length ∧ ∀ j : Nat, j < s.toNat → a[j]? = b[j]?) (fun s => (a.length - s).toNat) (0) ?_ (by repeat' (first | exact trivial | exact rfl | (refine And.intro ?_ ?_))) trivial (fun s => ⟨rfl, rfl⟩) (fun s i h => by first | exact absurd h (Nat.not_lt_zero i) | (cases i with | zero => rfl | succ i => exact absurd (Nat.lt_of_succ_lt_succ h) (Nat.not_lt_zero i))) ?_
  · exact ⟨by omega, by omega, fun j h => by omega⟩
  · rintro i ⟨g1, g2, g3⟩
    repeat' (first | ((with_reducible refine (?_ : (_ : Bool) = _)); (with_reducible rfl)) | ((with_reducible refine (?_ : (_ : Nat × Nat) = _)); (with_reducible rfl)) | (with_reducible refine leafRI ?_) | (with_reducible refine leafRB ?_) | (with_reducible refine leafI ?_) | (with_reducible refine leafB ?_) | ((with_reducible refine (?_ : (_ : Int) = _)); (with_reducible rfl)) | ((with_reducible refine (?_ : (_ : List (List Value)) = _)); (with_reducible rfl)) | ((with_reducible refine (?_ : (_ : Int) ≠ 0)); (first | assumption | omega | (simp; done) | (simp only [ints_len] at *; omega) | (simp; omega))) | ((with_reducible refine (?_ : (_ : Int) ≤ _)); (first | assumption | omega | (simp; done) | (simp only [ints_len] at *; omega) | (simp; omega))) | ((with_reducible refine (?_ : (_ : Int) < _)); (first | assumption | omega | (simp; done) | (simp only [ints_len] at *; omega) | (simp; omega))) | ((with_reducible refine (?_ : (_ : Nat) ≤ _)); (first | omega | (simp only [List.length_cons, List.length_nil]; omega) | (simp [ints]; done) | (simp; omega))) | ((with_reducible refine (?_ : (_ : Nat) < _)); (first | omega | (simp only [List.length_cons, List.length_nil]; omega) | (simp [ints]; done) | (simp; omega))) | ((with_reducible refine (?_ : (_ : Nat) = _)); (first | (with_reducible rfl) | (simp; done) | (simp only [fr_len]) | (simp only [ints_len]) | omega | (simp [*]; done))) | ((with_reducible refine view_at ?_ ?_); (focus (constructor <;> (first | omega | (simp only [ints_len] at *; omega)))); intro n hn) | (refine And.intro ?_ ?_) | (intro h; first | (exact Bool.noConfusion h) | ((simp only [decide_eq_true_eq, decide_eq_false_iff_not, beq_iff_eq, bne_iff_ne, ne_eq, beq_eq_false_iff_ne, bne_eq_false_iff_eq, Bool.not_eq_true', Bool.not_eq_false', Bool.not_eq_true, Bool.not_eq_false, Int.not_le, Int.not_lt, Bool.and_eq_true, Bool.or_eq_true, Bool.or_eq_false_iff, Bool.and_eq_false_iff] at h); (try (first | (exact Bool.noConfusion h) | (exact (h trivial).elim)))) | skip) | ((with_reducible refine (?_ : chk _ _ = true)); kernel_rfl) | ((with_reducible refine (?_ : (_ : IntKind) = _)); (with_reducible rfl)) | ((with_reducible refine (?_ : eqC (C.pvw _ _ _) (C.pvw _ _ _))); exact rfl) | ((with_reducible refine (?_ : eqC (C.pv (Value.int IntKind.u64 _)) _)); exact rfl) | exact trivial)
    · symm
      rw [decide_eq_false_iff_not]
      rintro rfl
      simp_all
    · refine ⟨(wrap64 (i + 1)), ?_, ?_, none, And.intro rfl (And.intro (by repeat' (first | exact trivial | exact rfl | (refine And.intro ?_ ?_))) (by repeat' (first | exact trivial | exact rfl | (refine And.intro ?_ ?_))))⟩
      · rw [wrap_small (n := i + 1) (by omega) (by omega)]
        refine ⟨by omega, by omega, fun j hj => ?_⟩
        by_cases e : j = i.toNat
        · subst e; simp_all
        · exact g3 j (by omega)
      · rw [wrap_small (n := i + 1) (by omega) (by omega)]
        omega
    · symm
      rw [decide_eq_true_eq]
      apply List.ext_getElem?
      intro j
      by_cases e : j < a.length
      · exact g3 j (by omega)
      · rw [List.getElem?_eq_none (by omega), List.getElem?_eq_none (by omega)]

theorem laws_qAbs (n : Int) (h : I64 n) (h2 : n ≠ -9223372036854775808) : AFun Try.prog 9 [] [I n] (I n.natAbs) [] [] := by
  have w1 : wrap64 (-n) = -n := wrap_small (by have := h.2; omega) (by have := h.1; omega)
  refine afun_intro fn9 rfl rfl (by repeat' (first | exact trivial | (simp; done) | refine ⟨?_, ?_⟩)) ?_
  unfold ac9
  repeat' (first | ((with_reducible refine (?_ : (_ : Bool) = _)); (with_reducible rfl)) | ((with_reducible refine (?_ : (_ : Nat × Nat) = _)); (with_reducible rfl)) | (with_reducible refine leafRI ?_) | (with_reducible refine leafRB ?_) | (with_reducible refine leafI ?_) | (with_reducible refine leafB ?_) | ((with_reducible refine (?_ : (_ : Int) = _)); (with_reducible rfl)) | ((with_reducible refine (?_ : (_ : List (List Value)) = _)); (with_reducible rfl)) | ((with_reducible refine (?_ : (_ : Int) ≠ 0)); (first | assumption | omega | (simp; done) | (simp only [ints_len] at *; omega) | (simp; omega))) | ((with_reducible refine (?_ : (_ : Int) ≤ _)); (first | assumption | omega | (simp; done) | (simp only [ints_len] at *; omega) | (simp; omega))) | ((with_reducible refine (?_ : (_ : Int) < _)); (first | assumption | omega | (simp; done) | (simp only [ints_len] at *; omega) | (simp; omega))) | ((with_reducible refine (?_ : (_ : Nat) ≤ _)); (first | omega | (simp only [List.length_cons, List.length_nil]; omega) | (simp [ints]; done) | (simp; omega))) | ((with_reducible refine (?_ : (_ : Nat) < _)); (first | omega | (simp only [List.length_cons, List.length_nil]; omega) | (simp [ints]; done) | (simp; omega))) | ((with_reducible refine (?_ : (_ : Nat) = _)); (first | (with_reducible rfl) | (simp; done) | (simp only [fr_len]) | (simp only [ints_len]) | omega | (simp [*]; done))) | (refine And.intro ?_ ?_) | (intro h; first | (exact Bool.noConfusion h) | ((simp only [decide_eq_true_eq, decide_eq_false_iff_not, beq_iff_eq, bne_iff_ne, ne_eq, beq_eq_false_iff_ne, bne_eq_false_iff_eq, Bool.not_eq_true', Bool.not_eq_false', Bool.not_eq_true, Bool.not_eq_false, Int.not_le, Int.not_lt, Bool.and_eq_true, Bool.or_eq_true, Bool.or_eq_false_iff, Bool.and_eq_false_iff] at h); (try (first | (exact Bool.noConfusion h) | (exact (h trivial).elim)))) | skip) | ((with_reducible refine (?_ : chk _ _ = true)); kernel_rfl) | ((with_reducible refine (?_ : (_ : IntKind) = _)); (with_reducible rfl)) | ((with_reducible refine (?_ : eqC (C.pvw _ _ _) (C.pvw _ _ _))); exact rfl) | ((with_reducible refine (?_ : eqC (C.pv (Value.int IntKind.u64 _)) _)); exact rfl) | exact trivial)
  · omega
  · omega

/-- What the law asks of the symbols, where they are defined. -/
structure HF (a b c p : Int) : Prop where
  s1 : hiG b a p = true
  s2 : hiV b a p = hiV a b p
  n1 : hiG a (-a) p = true
  n2 : hiV a (-a) p = 1
  c1 : hiG a c p = decide (c ≠ 0)
  m1 : hiG a (b * c) p = (decide (c ≠ 0) && decide (((b * c).natAbs : Int) ≤ 1000000))
  m2 : hiG a (b * c) p = true → hiV a (b * c) p = hiV a b p * hiV a c p
  l1 : lcG b p = true
  l2 : ((lcV b p).natAbs : Int) ≤ 1000000 → hiG a (lcV b p) p = true ∧ hiV a (lcV b p) p = hiV a b p
theorem hiG_iff {a b p : Int} : hiG a b p = true ↔ (a ≠ 0 ∧ (a.natAbs : Int) ≤ 1000000) ∧ (b ≠ 0 ∧ (b.natAbs : Int) ≤ 1000000) ∧ (p = 0 ∨ prime p = true ∧ p ≤ 1000000) := by
  simp only [hiG, num, Bool.and_eq_true, Bool.or_eq_true, decide_eq_true_eq, Bool.not_eq_true', decide_eq_false_iff_not]
  constructor
  · rintro ⟨⟨h1, h2⟩, h3⟩
    exact ⟨by omega, by omega, by grind⟩
  · rintro ⟨h1, h2, h3⟩
    refine ⟨⟨by omega, by omega⟩, ?_⟩
    rcases h3 with h3 | ⟨h3, h4⟩
    · exact .inl h3
    · have := prime_two h3
      exact .inr ⟨by omega, h3⟩
theorem lcG_iff {a p : Int} : lcG a p = true ↔ (a ≠ 0 ∧ (a.natAbs : Int) ≤ 1000000) ∧ (p = 0 ∨ prime p = true ∧ p ≤ 1000000) := by
  simp only [lcG, num, Bool.and_eq_true, Bool.or_eq_true, decide_eq_true_eq, Bool.not_eq_true', decide_eq_false_iff_not]
  constructor
  · rintro ⟨h1, h3⟩
    exact ⟨by omega, by grind⟩
  · rintro ⟨h1, h3⟩
    refine ⟨by omega, ?_⟩
    rcases h3 with h3 | ⟨h3, h4⟩
    · exact .inl h3
    · have := prime_two h3
      exact .inr ⟨by omega, h3⟩
theorem hiG_pl {a b p : Int} (h : hiG a b p = true) : Pl p := by
  rcases (hiG_iff.1 h).2.2 with e | e
  · exact .inl e
  · exact .inr e.1
theorem hf_ok {a b p : Int} (c : Int) (hc : c.natAbs < 1000) (h : hiG a b p = true) : HF a b c p := by
  have pl := hiG_pl h
  obtain ⟨ha, hb, hp⟩ := hiG_iff.1 h
  have v : hiV a b p = hil a b p := by rw [hiV, if_pos h]
  have k1 : hiG b a p = true := hiG_iff.2 ⟨hb, ha, hp⟩
  have k2 : hiG a (-a) p = true := hiG_iff.2 ⟨ha, ⟨by omega, by omega⟩, hp⟩
  have k3 : lcG b p = true := lcG_iff.2 ⟨hb, hp⟩
  have k4 : hiG a c p = decide (c ≠ 0) := by
    rw [Bool.eq_iff_iff, hiG_iff, decide_eq_true_eq]
    exact ⟨fun x => x.2.1.1, fun x => ⟨ha, ⟨x, by omega⟩, hp⟩⟩
  refine ⟨k1, ?_, k2, ?_, k4, ?_, ?_, k3, ?_⟩
  · rw [v, hiV, if_pos k1, hil_symm]
  · rw [hiV, if_pos k2, hil_neg pl ha.1]
  · rw [Bool.eq_iff_iff, hiG_iff, Bool.and_eq_true, decide_eq_true_eq, decide_eq_true_eq]
    constructor
    · rintro ⟨_, ⟨x, y⟩, _⟩
      exact ⟨fun e => x (by rw [e, Int.mul_zero]), y⟩
    · rintro ⟨x, y⟩
      exact ⟨ha, ⟨Int.mul_ne_zero hb.1 x, y⟩, hp⟩
  · intro k
    have c0 : c ≠ 0 := fun e => (hiG_iff.1 k).2.1.1 (by rw [e, Int.mul_zero])
    rw [v, hiV, if_pos k, hiV, if_pos (by rw [k4]; exact decide_eq_true c0), hil_mul pl ha.1 hb.1 c0]
  · intro k
    rw [lcV, if_pos k3] at k ⊢
    have k5 : hiG a (clas b p) p = true := hiG_iff.2 ⟨ha, ⟨(clas_ok (lcG_ok k3)).1, k⟩, hp⟩
    exact ⟨k5, by rw [hiV, if_pos k5, v, hil_clas hp ha.1 hb.1]⟩
/-- What the law asks of the places. -/
theorem spV_even (a b : Int) : (spV a b).length % 2 = 0 := by
  unfold spV
  split
  · rename_i h
    have := (spG_ok h).2 0 (by rw [plc2, plA_mem]; exact .inl (by simp))
    exact places_even this.a0 this.b0
  · rfl
theorem spV_mem {a b x : Int} (hx : x ∈ spV a b) : hiG a b x = true ∧ hiV a b x = -1 := by
  unfold spV at hx
  split at hx
  · rename_i h
    obtain ⟨h1, h2⟩ := List.mem_filter.1 hx
    obtain ⟨h3, h4⟩ := spG_ok h
    have h5 := h4 x h1
    have ga := h3.num 0 a rfl
    have gb := h3.num 1 b rfl
    have k : hiG a b x = true := hiG_iff.2 ⟨⟨ga.1, by omega⟩, ⟨gb.1, by omega⟩, h5.pl⟩
    refine ⟨k, ?_⟩
    rw [hiV, if_pos k]
    rcases hil_pm (hiG_pl k) ga.1 gb.1 with e | e
    · rw [e] at h2; simp at h2
    · exact e
  · cases hx

/-- The same, in plain functions. -/
structure HG (sv : Int → Int → Int → Int) (sd : Int → Int → Int → Bool) (kv : Int → Int → Int) (kd : Int → Int → Bool) (a b c p : Int) : Prop where
  s1 : sd b a p = true
  s2 : sv b a p = sv a b p
  n1 : sd a (wrap64 (-a)) p = true
  n2 : sv a (wrap64 (-a)) p = 1
  c1 : sd a c p = decide (c ≠ 0)
  w1 : wrap64 (b * c) = b * c
  b1 : -1000000000 ≤ b * c ∧ b * c ≤ 1000000000
  m1 : sd a (b * c) p = (decide (c ≠ 0) && decide (((b * c).natAbs : Int) ≤ 1000000))
  m2 : sd a (b * c) p = true → sv a (b * c) p = wrap64 (sv a b p * sv a c p)
  l1 : kd b p = true
  l3 : ((kv b p).natAbs : Int) ≤ 1000000000
  l2 : ((kv b p).natAbs : Int) ≤ 1000000 → sd a (kv b p) p = true ∧ sv a (kv b p) p = sv a b p
theorem hiV_or (a b p : Int) : hiV a b p = 1 ∨ hiV a b p = -1 ∨ hiV a b p = 0 := by
  unfold hiV
  split
  · rename_i h
    rcases hil_pm (hiG_pl h) (hiG_iff.1 h).1.1 (hiG_iff.1 h).2.1.1 with e | e <;> rw [e] <;> simp
  · simp
theorem hg_ok {a b p : Int} (c : Int) (hc : c.natAbs < 1000) (h : hiG a b p = true) : HG hiV hiG lcV lcG a b c p := by
  obtain ⟨q1, q2, q3, q4, q5, q6, q7, q8, q9⟩ := hf_ok c hc h
  obtain ⟨ha, hb, hp⟩ := hiG_iff.1 h
  have e1 : wrap64 (-a) = -a := wrap_small (by omega) (by omega)
  have e0 : (b * c).natAbs ≤ 1000000 * 1000 := by
    rw [Int.natAbs_mul]
    exact Nat.mul_le_mul (by omega) (by omega)
  have e2 : wrap64 (b * c) = b * c := wrap_small (by omega) (by omega)
  refine ⟨q1, q2, by rw [e1]; exact q3, by rw [e1]; exact q4, q5, e2, ⟨by omega, by omega⟩, q6, fun k => ?_, q8, ?_, q9⟩
  · rw [q7 k]
    rcases hiV_or a b p with e | e | e <;> rcases hiV_or a c p with f | f | f <;> rw [e, f] <;> exact (wrap_small (by decide) (by decide)).symm
  · rw [lcV, if_pos q8]
    have := (clas_ok (lcG_ok q8)).2
    omega

end Go.Proofs.Ytkadphmllejmdaa
