/- AreConjugate: the walks of its parts. -/
import Derived.Test.YtfmkcdggdikmdaaHC
namespace Go.Proofs.Ytfmkcdggdikmdaa
open Go.RowKit
set_option linter.unusedSimpArgs false
set_option linter.unusedVariables false
set_option maxRecDepth 100000
set_option maxHeartbeats 2000000

theorem neg_wrap {x : Int} (h1 : -2000000 ≤ x) (h2 : x ≤ 2000000) : wrap64 (-x) = -x := wrap_small (by omega) (by omega)

/-- What is known of a fixed form of a matrix with the trace -1, 0, 1. -/
structure EL (K : T3) (a b c : Int) : Prop where
  a0 : a ≠ 0
  p : 0 < a → Gd (a, b, c) ∧ (rdR (a, b, c)).1 = K
  n : a < 0 → Gd (-a, -b, -c) ∧ (rdR (-a, -b, -c)).1 = K
  d : dirF (a, b, c) = a.sign
theorem EL_of {t a b c : Int} (F : FX t (a, b, c)) {k : Int} (hk : k = 3 ∨ k = 4) (ht : 4 - t * t = k) : EL (1, k % 2, 1) a b c := by
  have hd : dsk (a, b, c) = k := F.d.trans ht
  obtain ⟨h0, h1⟩ := dir_small hd hk
  refine ⟨h0, fun h => ?_, fun h => ?_, h1⟩
  · have g := F.gd h (by omega)
    exact ⟨⟨g⟩, rdR_small g hd hk⟩
  · have hF : FX t (-a, -b, -c) := F.neg
    have hd' : dsk (-a, -b, -c) = k := hF.d.trans ht
    have g := hF.gd (by dsimp only; omega) (by omega)
    exact ⟨⟨g⟩, rdR_small g hd' hk⟩

theorem spec_moSame (t a b c d e f : Int) (h1 : -2 ≤ t) (h2 : t ≤ 2) (F : FX t (a, b, c)) (G : FX t (d, e, f)) : AFun Try.prog 67 [] [Fo a b c, Fo d e f] (Bo (decide (dirF (a, b, c) = dirF (d, e, f)))) [] [] := by
  have e1 := F.dsc
  have e2 := G.dsc
  have a1 := F.a
  have b1 := F.b
  have c1 := F.c
  have a2 := G.a
  have b2 := G.b
  have c2 := G.c
  dsimp only at e1 e2 a1 b1 c1 a2 b2 c2
  have hd := spec_foDisc a b c
  rw [e1] at hd
  by_cases ht : t = 2 ∨ t = -2
  · have hz : t * t - 4 = 0 := by rcases ht with rfl | rfl <;> rfl
    have k1 : dsk (a, b, c) = 0 := by rw [F.d]; omega
    have k2 : dsk (d, e, f) = 0 := by rw [G.d]; omega
    have hs := flat_same k1 k2
    have w1 : wrap64 (a + c) = a + c := wrap_small (by omega) (by omega)
    have w2 : wrap64 (d + f) = d + f := wrap_small (by omega) (by omega)
    unfold cntF at hs
    dsimp only at hs
    rw [← hs]
    rw [hz] at hd
    clear F G hs k1 k2 e1 e2
    refine afun_intro fn67 (by simp) rfl (by repeat' (first | exact trivial | (simp; done) | refine ⟨?_, ?_⟩)) ?_
    unfold ac67
    repeat' (first | ((with_reducible refine (?_ : (_ : Bool) = _)); (with_reducible rfl)) | ((with_reducible refine (?_ : (_ : Nat × Nat) = _)); (with_reducible rfl)) | (with_reducible refine leafRI ?_) | (with_reducible refine leafRB ?_) | (with_reducible refine leafI ?_) | (with_reducible refine leafB ?_) | ((with_reducible refine (?_ : (_ : Int) = _)); (with_reducible rfl)) | ((with_reducible refine (?_ : (_ : List (List Value)) = _)); (with_reducible rfl)) | ((with_reducible refine (?_ : (_ : Int) ≠ 0)); (first | assumption | omega | (simp only [ints_len] at *; omega) | (simp; omega))) | ((with_reducible refine (?_ : (_ : Int) ≤ _)); (first | assumption | omega | (simp only [ints_len] at *; omega) | (simp; omega))) | ((with_reducible refine (?_ : (_ : Int) < _)); (first | assumption | omega | (simp only [ints_len] at *; omega) | (simp; omega))) | ((with_reducible refine (?_ : (_ : Nat) ≤ _)); (first | omega | (simp only [List.length_cons, List.length_nil]; omega) | (simp; omega))) | ((with_reducible refine (?_ : (_ : Nat) = _)); (first | (with_reducible rfl) | (simp; done) | (simp only [fr_len]) | (simp only [ints_len]) | omega | (simp [*]; done))) | (refine And.intro ?_ ?_) | (intro h; first | (exact Bool.noConfusion h) | ((simp only [decide_eq_true_eq, decide_eq_false_iff_not, beq_iff_eq, bne_iff_ne, ne_eq, beq_eq_false_iff_ne, bne_eq_false_iff_eq, Bool.not_eq_true', Bool.not_eq_false', Bool.not_eq_true, Bool.not_eq_false, Int.not_le, Int.not_lt, Bool.and_eq_true, Bool.or_eq_true, Bool.or_eq_false_iff, Bool.and_eq_false_iff] at h); (try (first | (exact Bool.noConfusion h) | (exact (h trivial).elim)))) | skip) | ((refine (?_ : ACall _ _ _ _ _ _ _)); first | ((apply acall (hd)); (focus (repeat' (first | exact rfl | (refine And.intro ?_ ?_) | (simp only [ints_len]; done) | (simp; done) | omega)))) | ((apply acall (spec_foContent _ _ _ ?_ ?_ ?_ ?_ ?_ ?_)); (focus (repeat' (first | exact rfl | (refine And.intro ?_ ?_) | (simp only [ints_len]; done) | (simp; done) | omega)))) | ((apply acall (spec_l1Sign _)); (focus (repeat' (first | exact rfl | (refine And.intro ?_ ?_) | (simp only [ints_len]; done) | (simp; done) | omega))))) | ((with_reducible refine (?_ : chk _ _ = true)); kernel_rfl) | exact trivial)
    all_goals first | omega | (exact absurd ‹_› (by omega)) | skip
    all_goals first | (rw [w1, w2, decide_eq_true h, Bool.true_and]; rfl) | (simp_all; done) | skip
  · obtain ⟨k, hk, hkt⟩ : ∃ k : Int, (k = 3 ∨ k = 4) ∧ 4 - t * t = k := by
      rcases (show t = -1 ∨ t = 0 ∨ t = 1 by omega) with rfl | rfl | rfl
      · exact ⟨3, by omega, by omega⟩
      · exact ⟨4, by omega, by omega⟩
      · exact ⟨3, by omega, by omega⟩
    have E1 := EL_of F hk hkt
    have E2 := EL_of G hk hkt
    have p1 := E1.p
    have n1 := E1.n
    have p2 := E2.p
    have n2 := E2.n
    have z1 := E1.a0
    have z2 := E2.a0
    rw [E1.d, E2.d]
    have hlt : t * t - 4 < 0 := by omega
    clear F G e1 e2 E1 E2
    generalize (1, k % 2, 1) = K at *
    have wa := neg_wrap (x := a) (by omega) (by omega)
    have wb := neg_wrap (x := b) (by omega) (by omega)
    have wc := neg_wrap (x := c) (by omega) (by omega)
    have wd := neg_wrap (x := d) (by omega) (by omega)
    have we := neg_wrap (x := e) (by omega) (by omega)
    have wf := neg_wrap (x := f) (by omega) (by omega)
    have s1 : 0 < a ∧ a.sign = 1 ∨ a < 0 ∧ a.sign = -1 := by
      rcases Int.lt_trichotomy a 0 with h | h | h
      · exact .inr ⟨h, Int.sign_eq_neg_one_of_neg h⟩
      · exact absurd h z1
      · exact .inl ⟨h, Int.sign_eq_one_of_pos h⟩
    have s2 : 0 < d ∧ d.sign = 1 ∨ d < 0 ∧ d.sign = -1 := by
      rcases Int.lt_trichotomy d 0 with h | h | h
      · exact .inr ⟨h, Int.sign_eq_neg_one_of_neg h⟩
      · exact absurd h z2
      · exact .inl ⟨h, Int.sign_eq_one_of_pos h⟩
    rcases s1 with ⟨s1, s1'⟩ | ⟨s1, s1'⟩
    · rcases s2 with ⟨s2, s2'⟩ | ⟨s2, s2'⟩
      · obtain ⟨q1, q2⟩ := p1 s1
        obtain ⟨q3, q4⟩ := p2 s2
        rw [s1', s2']
        clear p1 p2 n1 n2
        refine afun_intro fn67 (by simp) rfl (by repeat' (first | exact trivial | (simp; done) | refine ⟨?_, ?_⟩)) ?_
        unfold ac67
        repeat' (first | ((with_reducible refine (?_ : (_ : Bool) = _)); (with_reducible rfl)) | ((with_reducible refine (?_ : (_ : Nat × Nat) = _)); (with_reducible rfl)) | (with_reducible refine leafRI ?_) | (with_reducible refine leafRB ?_) | (with_reducible refine leafI ?_) | (with_reducible refine leafB ?_) | ((with_reducible refine (?_ : (_ : Int) = _)); (with_reducible rfl)) | ((with_reducible refine (?_ : (_ : List (List Value)) = _)); (with_reducible rfl)) | ((with_reducible refine (?_ : (_ : Int) ≠ 0)); (first | assumption | omega | (simp only [ints_len] at *; omega) | (simp; omega))) | ((with_reducible refine (?_ : (_ : Int) ≤ _)); (first | assumption | omega | (simp only [ints_len] at *; omega) | (simp; omega))) | ((with_reducible refine (?_ : (_ : Int) < _)); (first | assumption | omega | (simp only [ints_len] at *; omega) | (simp; omega))) | ((with_reducible refine (?_ : (_ : Nat) ≤ _)); (first | omega | (simp only [List.length_cons, List.length_nil]; omega) | (simp; omega))) | ((with_reducible refine (?_ : (_ : Nat) = _)); (first | (with_reducible rfl) | (simp; done) | (simp only [fr_len]) | (simp only [ints_len]) | omega | (simp [*]; done))) | (refine And.intro ?_ ?_) | (intro h; first | (exact Bool.noConfusion h) | ((simp only [decide_eq_true_eq, decide_eq_false_iff_not, beq_iff_eq, bne_iff_ne, ne_eq, beq_eq_false_iff_ne, bne_eq_false_iff_eq, Bool.not_eq_true', Bool.not_eq_false', Bool.not_eq_true, Bool.not_eq_false, Int.not_le, Int.not_lt, Bool.and_eq_true, Bool.or_eq_true, Bool.or_eq_false_iff, Bool.and_eq_false_iff] at h); (try (first | (exact Bool.noConfusion h) | (exact (h trivial).elim)))) | skip) | ((refine (?_ : ACall _ _ _ _ _ _ _)); first | ((apply acall (hd)); (focus (repeat' (first | exact rfl | (refine And.intro ?_ ?_) | (simp only [ints_len]; done) | (simp; done) | omega)))) | ((apply acall (spec_l1Sign _)); (focus (repeat' (first | exact rfl | (refine And.intro ?_ ?_) | (simp only [ints_len]; done) | (simp; done) | omega)))) | ((apply acall (spec_reClass _ _ _ ?_)); (focus (repeat' (first | exact rfl | (refine And.intro ?_ ?_) | (simp only [ints_len]; done) | (simp; done) | omega))))) | ((with_reducible refine (?_ : chk _ _ = true)); kernel_rfl) | exact trivial)
        all_goals first | assumption | omega | (simp_all; done) | skip
      · rw [s1', s2']
        clear p1 p2 n1 n2
        refine afun_intro fn67 (by simp) rfl (by repeat' (first | exact trivial | (simp; done) | refine ⟨?_, ?_⟩)) ?_
        unfold ac67
        repeat' (first | ((with_reducible refine (?_ : (_ : Bool) = _)); (with_reducible rfl)) | ((with_reducible refine (?_ : (_ : Nat × Nat) = _)); (with_reducible rfl)) | (with_reducible refine leafRI ?_) | (with_reducible refine leafRB ?_) | (with_reducible refine leafI ?_) | (with_reducible refine leafB ?_) | ((with_reducible refine (?_ : (_ : Int) = _)); (with_reducible rfl)) | ((with_reducible refine (?_ : (_ : List (List Value)) = _)); (with_reducible rfl)) | ((with_reducible refine (?_ : (_ : Int) ≠ 0)); (first | assumption | omega | (simp only [ints_len] at *; omega) | (simp; omega))) | ((with_reducible refine (?_ : (_ : Int) ≤ _)); (first | assumption | omega | (simp only [ints_len] at *; omega) | (simp; omega))) | ((with_reducible refine (?_ : (_ : Int) < _)); (first | assumption | omega | (simp only [ints_len] at *; omega) | (simp; omega))) | ((with_reducible refine (?_ : (_ : Nat) ≤ _)); (first | omega | (simp only [List.length_cons, List.length_nil]; omega) | (simp; omega))) | ((with_reducible refine (?_ : (_ : Nat) = _)); (first | (with_reducible rfl) | (simp; done) | (simp only [fr_len]) | (simp only [ints_len]) | omega | (simp [*]; done))) | (refine And.intro ?_ ?_) | (intro h; first | (exact Bool.noConfusion h) | ((simp only [decide_eq_true_eq, decide_eq_false_iff_not, beq_iff_eq, bne_iff_ne, ne_eq, beq_eq_false_iff_ne, bne_eq_false_iff_eq, Bool.not_eq_true', Bool.not_eq_false', Bool.not_eq_true, Bool.not_eq_false, Int.not_le, Int.not_lt, Bool.and_eq_true, Bool.or_eq_true, Bool.or_eq_false_iff, Bool.and_eq_false_iff] at h); (try (first | (exact Bool.noConfusion h) | (exact (h trivial).elim)))) | skip) | ((refine (?_ : ACall _ _ _ _ _ _ _)); first | ((apply acall (hd)); (focus (repeat' (first | exact rfl | (refine And.intro ?_ ?_) | (simp only [ints_len]; done) | (simp; done) | omega)))) | ((apply acall (spec_l1Sign _)); (focus (repeat' (first | exact rfl | (refine And.intro ?_ ?_) | (simp only [ints_len]; done) | (simp; done) | omega)))) | ((apply acall (spec_reClass _ _ _ ?_)); (focus (repeat' (first | exact rfl | (refine And.intro ?_ ?_) | (simp only [ints_len]; done) | (simp; done) | omega))))) | ((with_reducible refine (?_ : chk _ _ = true)); kernel_rfl) | exact trivial)
        all_goals first | assumption | omega | (exfalso; simp_all; done) | (simp_all; done) | skip
    · rcases s2 with ⟨s2, s2'⟩ | ⟨s2, s2'⟩
      · rw [s1', s2']
        clear p1 p2 n1 n2
        refine afun_intro fn67 (by simp) rfl (by repeat' (first | exact trivial | (simp; done) | refine ⟨?_, ?_⟩)) ?_
        unfold ac67
        repeat' (first | ((with_reducible refine (?_ : (_ : Bool) = _)); (with_reducible rfl)) | ((with_reducible refine (?_ : (_ : Nat × Nat) = _)); (with_reducible rfl)) | (with_reducible refine leafRI ?_) | (with_reducible refine leafRB ?_) | (with_reducible refine leafI ?_) | (with_reducible refine leafB ?_) | ((with_reducible refine (?_ : (_ : Int) = _)); (with_reducible rfl)) | ((with_reducible refine (?_ : (_ : List (List Value)) = _)); (with_reducible rfl)) | ((with_reducible refine (?_ : (_ : Int) ≠ 0)); (first | assumption | omega | (simp only [ints_len] at *; omega) | (simp; omega))) | ((with_reducible refine (?_ : (_ : Int) ≤ _)); (first | assumption | omega | (simp only [ints_len] at *; omega) | (simp; omega))) | ((with_reducible refine (?_ : (_ : Int) < _)); (first | assumption | omega | (simp only [ints_len] at *; omega) | (simp; omega))) | ((with_reducible refine (?_ : (_ : Nat) ≤ _)); (first | omega | (simp only [List.length_cons, List.length_nil]; omega) | (simp; omega))) | ((with_reducible refine (?_ : (_ : Nat) = _)); (first | (with_reducible rfl) | (simp; done) | (simp only [fr_len]) | (simp only [ints_len]) | omega | (simp [*]; done))) | (refine And.intro ?_ ?_) | (intro h; first | (exact Bool.noConfusion h) | ((simp only [decide_eq_true_eq, decide_eq_false_iff_not, beq_iff_eq, bne_iff_ne, ne_eq, beq_eq_false_iff_ne, bne_eq_false_iff_eq, Bool.not_eq_true', Bool.not_eq_false', Bool.not_eq_true, Bool.not_eq_false, Int.not_le, Int.not_lt, Bool.and_eq_true, Bool.or_eq_true, Bool.or_eq_false_iff, Bool.and_eq_false_iff] at h); (try (first | (exact Bool.noConfusion h) | (exact (h trivial).elim)))) | skip) | ((refine (?_ : ACall _ _ _ _ _ _ _)); first | ((apply acall (hd)); (focus (repeat' (first | exact rfl | (refine And.intro ?_ ?_) | (simp only [ints_len]; done) | (simp; done) | omega)))) | ((apply acall (spec_l1Sign _)); (focus (repeat' (first | exact rfl | (refine And.intro ?_ ?_) | (simp only [ints_len]; done) | (simp; done) | omega)))) | ((apply acall (spec_reClass _ _ _ ?_)); (focus (repeat' (first | exact rfl | (refine And.intro ?_ ?_) | (simp only [ints_len]; done) | (simp; done) | omega))))) | ((with_reducible refine (?_ : chk _ _ = true)); kernel_rfl) | exact trivial)
        all_goals first | assumption | omega | (exfalso; simp_all; done) | (simp_all; done) | skip
      · obtain ⟨q1, q2⟩ := n1 s1
        obtain ⟨q3, q4⟩ := n2 s2
        rw [s1', s2']
        clear p1 p2 n1 n2
        rw [← wa, ← wb, ← wc] at q1 q2
        rw [← wd, ← we, ← wf] at q3 q4
        clear wa wb wc wd we wf
        refine afun_intro fn67 (by simp) rfl (by repeat' (first | exact trivial | (simp; done) | refine ⟨?_, ?_⟩)) ?_
        unfold ac67
        repeat' (first | ((with_reducible refine (?_ : (_ : Bool) = _)); (with_reducible rfl)) | ((with_reducible refine (?_ : (_ : Nat × Nat) = _)); (with_reducible rfl)) | (with_reducible refine leafRI ?_) | (with_reducible refine leafRB ?_) | (with_reducible refine leafI ?_) | (with_reducible refine leafB ?_) | ((with_reducible refine (?_ : (_ : Int) = _)); (with_reducible rfl)) | ((with_reducible refine (?_ : (_ : List (List Value)) = _)); (with_reducible rfl)) | ((with_reducible refine (?_ : (_ : Int) ≠ 0)); (first | assumption | omega | (simp only [ints_len] at *; omega) | (simp; omega))) | ((with_reducible refine (?_ : (_ : Int) ≤ _)); (first | assumption | omega | (simp only [ints_len] at *; omega) | (simp; omega))) | ((with_reducible refine (?_ : (_ : Int) < _)); (first | assumption | omega | (simp only [ints_len] at *; omega) | (simp; omega))) | ((with_reducible refine (?_ : (_ : Nat) ≤ _)); (first | omega | (simp only [List.length_cons, List.length_nil]; omega) | (simp; omega))) | ((with_reducible refine (?_ : (_ : Nat) = _)); (first | (with_reducible rfl) | (simp; done) | (simp only [fr_len]) | (simp only [ints_len]) | omega | (simp [*]; done))) | (refine And.intro ?_ ?_) | (intro h; first | (exact Bool.noConfusion h) | ((simp only [decide_eq_true_eq, decide_eq_false_iff_not, beq_iff_eq, bne_iff_ne, ne_eq, beq_eq_false_iff_ne, bne_eq_false_iff_eq, Bool.not_eq_true', Bool.not_eq_false', Bool.not_eq_true, Bool.not_eq_false, Int.not_le, Int.not_lt, Bool.and_eq_true, Bool.or_eq_true, Bool.or_eq_false_iff, Bool.and_eq_false_iff] at h); (try (first | (exact Bool.noConfusion h) | (exact (h trivial).elim)))) | skip) | ((refine (?_ : ACall _ _ _ _ _ _ _)); first | ((apply acall (hd)); (focus (repeat' (first | exact rfl | (refine And.intro ?_ ?_) | (simp only [ints_len]; done) | (simp; done) | omega)))) | ((apply acall (spec_l1Sign _)); (focus (repeat' (first | exact rfl | (refine And.intro ?_ ?_) | (simp only [ints_len]; done) | (simp; done) | omega)))) | ((apply acall (spec_reClass _ _ _ ?_)); (focus (repeat' (first | exact rfl | (refine And.intro ?_ ?_) | (simp only [ints_len]; done) | (simp; done) | omega))))) | ((with_reducible refine (?_ : chk _ _ = true)); kernel_rfl) | exact trivial)
        all_goals first | assumption | omega | (simp_all; done) | skip

theorem nat_le_dvd {g x : Int} (h : g ∣ x) (h0 : x ≠ 0) : g.natAbs ≤ x.natAbs := Nat.le_of_dvd (by omega) (Int.natAbs_dvd_natAbs.2 h)
theorem impl_direction (p q r s : Int) (h : prp (p, q, r, s) = true) : AFun Try.prog 71 [] [Ma p q r s] (I (dirF (r, s - p, -q))) [] [] := by
  obtain ⟨h1, h2, h3, h4, h5⟩ := prp_iff.1 h
  have w1 : wrap64 (s - p) = s - p := wrap_small (by omega) (by omega)
  have w2 : wrap64 (-q) = -q := wrap_small (by omega) (by omega)
  have hc := impl_content r (s - p) (-q) (by omega) (by omega) (by omega) (by omega) (by omega) (by omega)
  have hz : 0 ≤ cntF (r, s - p, -q) ∧ cntF (r, s - p, -q) ≤ 2000000 := by
    have hz := cnt_zero (f := (r, s - p, -q))
    have hdv := cnt_dvd (r, s - p, -q)
    dsimp only at hz hdv
    have h0 : 0 ≤ cntF (r, s - p, -q) := by unfold cntF; omega
    refine ⟨h0, ?_⟩
    generalize cntF (r, s - p, -q) = g at *
    by_cases hr : r = 0
    · by_cases hs : s - p = 0
      · by_cases hq : -q = 0
        · rw [hz.2 ⟨hr, hs, hq⟩]; omega
        · have := nat_le_dvd hdv.2.2 hq; omega
      · have := nat_le_dvd hdv.2.1 hs; omega
    · have := nat_le_dvd hdv.1 hr; omega
  have w3 : wrap64 (-cntF (r, s - p, -q)) = -cntF (r, s - p, -q) := wrap_small (by omega) (by omega)
  have hcf : cntF (r, s - p, -q) = ((Int.gcd ((Int.gcd r (s - p) : Nat) : Int) (-q) : Nat) : Int) := rfl
  rw [← hcf] at hc
  unfold dirF
  dsimp only
  generalize cntF (r, s - p, -q) = g at *
  clear hcf
  rw [← w1, ← w2] at hc
  refine afun_intro fn71 (by simp) rfl (by repeat' (first | exact trivial | (simp; done) | refine ⟨?_, ?_⟩)) ?_
  unfold ac71
  repeat' (first | ((with_reducible refine (?_ : (_ : Bool) = _)); (with_reducible rfl)) | ((with_reducible refine (?_ : (_ : Nat × Nat) = _)); (with_reducible rfl)) | (with_reducible refine leafRI ?_) | (with_reducible refine leafRB ?_) | (with_reducible refine leafI ?_) | (with_reducible refine leafB ?_) | ((with_reducible refine (?_ : (_ : Int) = _)); (with_reducible rfl)) | ((with_reducible refine (?_ : (_ : List (List Value)) = _)); (with_reducible rfl)) | ((with_reducible refine (?_ : (_ : Int) ≠ 0)); (first | assumption | omega | (simp only [ints_len] at *; omega) | (simp; omega))) | ((with_reducible refine (?_ : (_ : Int) ≤ _)); (first | assumption | omega | (simp only [ints_len] at *; omega) | (simp; omega))) | ((with_reducible refine (?_ : (_ : Int) < _)); (first | assumption | omega | (simp only [ints_len] at *; omega) | (simp; omega))) | ((with_reducible refine (?_ : (_ : Nat) ≤ _)); (first | omega | (simp only [List.length_cons, List.length_nil]; omega) | (simp; omega))) | ((with_reducible refine (?_ : (_ : Nat) = _)); (first | (with_reducible rfl) | (simp; done) | (simp only [fr_len]) | (simp only [ints_len]) | omega | (simp [*]; done))) | (refine And.intro ?_ ?_) | (intro h; first | (exact Bool.noConfusion h) | ((simp only [decide_eq_true_eq, decide_eq_false_iff_not, beq_iff_eq, bne_iff_ne, ne_eq, beq_eq_false_iff_ne, bne_eq_false_iff_eq, Bool.not_eq_true', Bool.not_eq_false', Bool.not_eq_true, Bool.not_eq_false, Int.not_le, Int.not_lt, Bool.and_eq_true, Bool.or_eq_true, Bool.or_eq_false_iff, Bool.and_eq_false_iff] at h); (try (first | (exact Bool.noConfusion h) | (exact (h trivial).elim)))) | skip) | ((refine (?_ : ACall _ _ _ _ _ _ _)); first | ((apply acall (hc)); (focus (repeat' (first | exact rfl | (refine And.intro ?_ ?_) | (simp only [ints_len]; done) | (simp; done) | omega))))) | ((with_reducible refine (?_ : chk _ _ = true)); kernel_rfl) | exact trivial)
  all_goals (try rw [w2] at h)
  all_goals (split <;> first | rfl | exact w3 | (exfalso; omega))

theorem spec_moForm (p q r s : Int) : AFun Try.prog 64 [] [Ma p q r s] (Fo r (wrap64 (s - p)) (wrap64 (-q))) [] [] := by
  refine afun_intro fn64 (by simp) rfl (by repeat' (first | exact trivial | (simp; done) | refine ⟨?_, ?_⟩)) ?_
  unfold ac64
  repeat' (first | ((with_reducible refine (?_ : (_ : Bool) = _)); (with_reducible rfl)) | ((with_reducible refine (?_ : (_ : Nat × Nat) = _)); (with_reducible rfl)) | (with_reducible refine leafRI ?_) | (with_reducible refine leafRB ?_) | (with_reducible refine leafI ?_) | (with_reducible refine leafB ?_) | ((with_reducible refine (?_ : (_ : Int) = _)); (with_reducible rfl)) | ((with_reducible refine (?_ : (_ : List (List Value)) = _)); (with_reducible rfl)) | ((with_reducible refine (?_ : (_ : Int) ≠ 0)); (first | assumption | omega | (simp only [ints_len] at *; omega) | (simp; omega))) | ((with_reducible refine (?_ : (_ : Int) ≤ _)); (first | assumption | omega | (simp only [ints_len] at *; omega) | (simp; omega))) | ((with_reducible refine (?_ : (_ : Int) < _)); (first | assumption | omega | (simp only [ints_len] at *; omega) | (simp; omega))) | ((with_reducible refine (?_ : (_ : Nat) ≤ _)); (first | omega | (simp only [List.length_cons, List.length_nil]; omega) | (simp; omega))) | ((with_reducible refine (?_ : (_ : Nat) = _)); (first | (with_reducible rfl) | (simp; done) | (simp only [fr_len]) | (simp only [ints_len]) | omega | (simp [*]; done))) | (refine And.intro ?_ ?_) | (intro h; first | (exact Bool.noConfusion h) | ((simp only [decide_eq_true_eq, decide_eq_false_iff_not, beq_iff_eq, bne_iff_ne, ne_eq, beq_eq_false_iff_ne, bne_eq_false_iff_eq, Bool.not_eq_true', Bool.not_eq_false', Bool.not_eq_true, Bool.not_eq_false, Int.not_le, Int.not_lt, Bool.and_eq_true, Bool.or_eq_true, Bool.or_eq_false_iff, Bool.and_eq_false_iff] at h); (try (first | (exact Bool.noConfusion h) | (exact (h trivial).elim)))) | skip) | ((with_reducible refine (?_ : chk _ _ = true)); kernel_rfl) | exact trivial)
  all_goals rfl

theorem impl_FixedForm (p q r s : Int) (h : prp (p, q, r, s) = true) : AFun Try.prog 72 [] [Ma p q r s] (.tup [(true, c3 (if num r && num (s - p) && num (-q) then (r, s - p, -q) else z3)), (false, [cB (num r && num (s - p) && num (-q))])]) [] [] := by
  obtain ⟨h1, h2, h3, h4, h5⟩ := prp_iff.1 h
  have w1 : wrap64 (s - p) = s - p := wrap_small (by omega) (by omega)
  have w2 : wrap64 (-q) = -q := wrap_small (by omega) (by omega)
  rw [← w1, ← w2]
  unfold z3
  refine afun_intro fn72 (by simp) rfl (by repeat' (first | exact trivial | (simp; done) | refine ⟨?_, ?_⟩)) ?_
  unfold ac72
  repeat' (first | ((with_reducible refine (?_ : (_ : Bool) = _)); (with_reducible rfl)) | ((with_reducible refine (?_ : (_ : Nat × Nat) = _)); (with_reducible rfl)) | (with_reducible refine leafRI ?_) | (with_reducible refine leafRB ?_) | (with_reducible refine leafI ?_) | (with_reducible refine leafB ?_) | ((with_reducible refine (?_ : (_ : Int) = _)); (with_reducible rfl)) | ((with_reducible refine (?_ : (_ : List (List Value)) = _)); (with_reducible rfl)) | ((with_reducible refine (?_ : (_ : Int) ≠ 0)); (first | assumption | omega | (simp only [ints_len] at *; omega) | (simp; omega))) | ((with_reducible refine (?_ : (_ : Int) ≤ _)); (first | assumption | omega | (simp only [ints_len] at *; omega) | (simp; omega))) | ((with_reducible refine (?_ : (_ : Int) < _)); (first | assumption | omega | (simp only [ints_len] at *; omega) | (simp; omega))) | ((with_reducible refine (?_ : (_ : Nat) ≤ _)); (first | omega | (simp only [List.length_cons, List.length_nil]; omega) | (simp; omega))) | ((with_reducible refine (?_ : (_ : Nat) = _)); (first | (with_reducible rfl) | (simp; done) | (simp only [fr_len]) | (simp only [ints_len]) | omega | (simp [*]; done))) | (refine And.intro ?_ ?_) | (intro h; first | (exact Bool.noConfusion h) | ((simp only [decide_eq_true_eq, decide_eq_false_iff_not, beq_iff_eq, bne_iff_ne, ne_eq, beq_eq_false_iff_ne, bne_eq_false_iff_eq, Bool.not_eq_true', Bool.not_eq_false', Bool.not_eq_true, Bool.not_eq_false, Int.not_le, Int.not_lt, Bool.and_eq_true, Bool.or_eq_true, Bool.or_eq_false_iff, Bool.and_eq_false_iff] at h); (try (first | (exact Bool.noConfusion h) | (exact (h trivial).elim)))) | skip) | ((refine (?_ : ACall _ _ _ _ _ _ _)); first | ((apply acall (impl_isProper _ _ _ _)); (focus (repeat' (first | exact rfl | (refine And.intro ?_ ?_) | (simp only [ints_len]; done) | (simp; done) | omega)))) | ((apply acall (impl_IsForm _ _ _)); (focus (repeat' (first | exact rfl | (refine And.intro ?_ ?_) | (simp only [ints_len]; done) | (simp; done) | omega))))) | ((with_reducible refine (?_ : chk _ _ = true)); kernel_rfl) | exact trivial)
  all_goals first | (symm; simp only [Bool.and_eq_false_iff]; assumption) | (simp_all; done) | (split <;> first | rfl | (exfalso; grind)) | skip

/-- What AreConjugate answers. -/
def fkT (m : T4) : Bool := num m.2.2.1 && num (m.2.2.2 - m.1) && num (-m.2.1)
def acG (m n : T4) : Bool := prp m && prp n && decide ((trT m).natAbs ≤ 31) && decide ((trT n).natAbs ≤ 31)
noncomputable def acR (m n : T4) : Bool × Bool := if acG m n then (if trT m = trT n then (if (trT m).natAbs ≤ 2 then (decide (dirF (fxT m) = dirF (fxT n)), true) else if fkT m && fkT n then (scE (fxT m) (fxT n), scB (fxT m) (fxT n)) else (false, false)) else (false, true)) else (false, false)

end Go.Proofs.Ytfmkcdggdikmdaa
