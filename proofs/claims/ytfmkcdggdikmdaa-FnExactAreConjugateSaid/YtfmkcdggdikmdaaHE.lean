/- AreConjugate. -/
import Derived.Test.YtfmkcdggdikmdaaHD
namespace Go.Proofs.Ytfmkcdggdikmdaa
open Go.RowKit
set_option linter.unusedSimpArgs false
set_option linter.unusedVariables false
set_option maxRecDepth 100000
set_option maxHeartbeats 2000000

theorem spec_AreConjugate (p q r s a b c d : Int) : AFun Try.prog 38 [] [Ma p q r s, Ma a b c d] (PBB (acR (p, q, r, s) (a, b, c, d)).1 (acR (p, q, r, s) (a, b, c, d)).2) [] [] := by
  by_cases hp : prp (p, q, r, s) = true ∧ prp (a, b, c, d) = true
  · obtain ⟨hp1, hp2⟩ := hp
    have F := FX_of hp1
    have G := FX_of hp2
    obtain ⟨h1, h2, h3, h4, h5⟩ := prp_iff.1 hp1
    obtain ⟨k1, k2, k3, k4, k5⟩ := prp_iff.1 hp2
    have w1 : wrap64 (s - p) = s - p := wrap_small (by omega) (by omega)
    have w2 : wrap64 (-q) = -q := wrap_small (by omega) (by omega)
    have w3 : wrap64 (d - a) = d - a := wrap_small (by omega) (by omega)
    have w4 : wrap64 (-b) = -b := wrap_small (by omega) (by omega)
    have w5 : wrap64 (p + s) = p + s := wrap_small (by omega) (by omega)
    have w6 : wrap64 (a + d) = a + d := wrap_small (by omega) (by omega)
    have hR : acR (p, q, r, s) (a, b, c, d) = if ((wrap64 (p + s)).natAbs : Int) ≤ 31 ∧ ((wrap64 (a + d)).natAbs : Int) ≤ 31 then (if wrap64 (p + s) = wrap64 (a + d) then (if ((wrap64 (p + s)).natAbs : Int) ≤ 2 then (decide (dirF (r, s - p, -q) = dirF (c, d - a, -b)), true) else if ((num r = true ∧ num (wrap64 (s - p)) = true) ∧ num (wrap64 (-q)) = true) ∧ (num c = true ∧ num (wrap64 (d - a)) = true) ∧ num (wrap64 (-b)) = true then (scE (r, s - p, -q) (c, d - a, -b), scB (r, s - p, -q) (c, d - a, -b)) else (false, false)) else (false, true)) else (false, false) := by
      rw [w1, w2, w3, w4, w5, w6]
      have c1 : ∀ x : Int, ((x.natAbs : Int) ≤ 31) = (x.natAbs ≤ 31) := fun x => by apply propext; omega
      have c2 : ∀ x : Int, ((x.natAbs : Int) ≤ 2) = (x.natAbs ≤ 2) := fun x => by apply propext; omega
      simp only [c1, c2, acR, acG, hp1, hp2, fkT, Bool.true_and, Bool.and_eq_true, decide_eq_true_eq]
    have hs : Unit → wrap64 (p + s) = wrap64 (a + d) → (wrap64 (p + s)).natAbs ≤ 2 → AFun Try.prog 67 [] [Fo r (wrap64 (s - p)) (wrap64 (-q)), Fo c (wrap64 (d - a)) (wrap64 (-b))] (Bo (decide (dirF (r, s - p, -q) = dirF (c, d - a, -b)))) [] [] := fun _ e hh => by
      rw [w5, w6] at e
      rw [w5] at hh
      rw [w1, w2, w3, w4]
      exact spec_moSame (p + s) _ _ _ _ _ _ (by omega) (by omega) F (by rw [e]; exact G)
    have hc : Unit → wrap64 (p + s) = wrap64 (a + d) → AFun Try.prog 66 [] [Fo r (wrap64 (s - p)) (wrap64 (-q)), Fo c (wrap64 (d - a)) (wrap64 (-b))] (PBB (scE (r, s - p, -q) (c, d - a, -b)) (scB (r, s - p, -q) (c, d - a, -b))) [] [] := fun _ e => by
      rw [w5, w6] at e
      rw [w1, w2, w3, w4]
      exact spec_SameCycle _ _ _ _ _ _ (by rw [show dsc r (s - p) (-q) = (p + s) * (p + s) - 4 from F.dsc, show dsc c (d - a) (-b) = (a + d) * (a + d) - 4 from G.dsc, e])
    clear F G h5 k5
    generalize decide (dirF (r, s - p, -q) = dirF (c, d - a, -b)) = V at *
    generalize scE (r, s - p, -q) (c, d - a, -b) = E at *
    generalize scB (r, s - p, -q) (c, d - a, -b) = B at *
    have hw1 : (wrap64 (p + s)).natAbs ≤ 2000000 := by rw [w5]; omega
    have hw2 : (wrap64 (a + d)).natAbs ≤ 2000000 := by rw [w6]; omega
    clear w1 w2 w3 w4 w5 w6 h1 h2 h3 h4 k1 k2 k3 k4
    generalize acR (p, q, r, s) (a, b, c, d) = A at *
    have R1 : Unit → 31 < ((wrap64 (p + s)).natAbs : Int) → A = (false, false) := fun _ h => by rw [hR, if_neg (fun g => Int.not_lt.2 g.1 h)]
    have R2 : Unit → 31 < ((wrap64 (a + d)).natAbs : Int) → A = (false, false) := fun _ h => by rw [hR, if_neg (fun g => Int.not_lt.2 g.2 h)]
    have R3 : Unit → ((wrap64 (p + s)).natAbs : Int) ≤ 31 → ((wrap64 (a + d)).natAbs : Int) ≤ 31 → ¬ wrap64 (p + s) = wrap64 (a + d) → A = (false, true) := fun _ h1 h2 h => by rw [hR, if_pos ⟨h1, h2⟩, if_neg h]
    have R4 : Unit → ((wrap64 (p + s)).natAbs : Int) ≤ 31 → ((wrap64 (a + d)).natAbs : Int) ≤ 31 → wrap64 (p + s) = wrap64 (a + d) → 2 < ((wrap64 (p + s)).natAbs : Int) → ((num r = false ∨ num (wrap64 (s - p)) = false) ∨ num (wrap64 (-q)) = false) → A = (false, false) := fun _ h1 h2 h3 h4 h => by
      rw [hR, if_pos ⟨h1, h2⟩, if_pos h3, if_neg (Int.not_le.2 h4), if_neg]
      rintro ⟨⟨⟨g1, g2⟩, g3⟩, _⟩
      simp only [g1, g2, g3, reduceCtorEq, or_self] at h
    have R5 : Unit → ((wrap64 (p + s)).natAbs : Int) ≤ 31 → ((wrap64 (a + d)).natAbs : Int) ≤ 31 → wrap64 (p + s) = wrap64 (a + d) → 2 < ((wrap64 (p + s)).natAbs : Int) → ((num c = false ∨ num (wrap64 (d - a)) = false) ∨ num (wrap64 (-b)) = false) → A = (false, false) := fun _ h1 h2 h3 h4 h => by
      rw [hR, if_pos ⟨h1, h2⟩, if_pos h3, if_neg (Int.not_le.2 h4), if_neg]
      rintro ⟨_, ⟨⟨g1, g2⟩, g3⟩⟩
      simp only [g1, g2, g3, reduceCtorEq, or_self] at h
    have R6 : Unit → ((wrap64 (p + s)).natAbs : Int) ≤ 31 → ((wrap64 (a + d)).natAbs : Int) ≤ 31 → wrap64 (p + s) = wrap64 (a + d) → 2 < ((wrap64 (p + s)).natAbs : Int) → ((num r = true ∧ num (wrap64 (s - p)) = true) ∧ num (wrap64 (-q)) = true) → ((num c = true ∧ num (wrap64 (d - a)) = true) ∧ num (wrap64 (-b)) = true) → A = (E, B) := fun _ h1 h2 h3 h4 h5 h => by
      rw [hR, if_pos ⟨h1, h2⟩, if_pos h3, if_neg (Int.not_le.2 h4), if_pos ⟨h5, h⟩]
    have R7 : Unit → ((wrap64 (p + s)).natAbs : Int) ≤ 31 → ((wrap64 (a + d)).natAbs : Int) ≤ 31 → wrap64 (p + s) = wrap64 (a + d) → ((wrap64 (p + s)).natAbs : Int) ≤ 2 → A = (V, true) := fun _ h1 h2 h3 h => by
      rw [hR, if_pos ⟨h1, h2⟩, if_pos h3, if_pos h]
    have R8 : Unit → ((wrap64 (p + s)).natAbs : Int) ≤ 2 → (wrap64 (p + s)).natAbs ≤ 2 := fun _ h => Int.ofNat_le.1 h
    clear hR
    refine afun_intro fn38 (by simp) rfl (by repeat' (first | exact trivial | (simp; done) | refine ⟨?_, ?_⟩)) ?_
    unfold ac38
    repeat' (first | ((with_reducible refine (?_ : setK _ _ _ _)); simp only [setK, runIt, gF, gT, getK, putK, opK, opA, evK, effK]; (try simp only [wpA, evK, getK])) | ((with_reducible refine (?_ : (_ : Bool) = _)); (with_reducible rfl)) | ((with_reducible refine (?_ : (_ : Nat × Nat) = _)); (with_reducible rfl)) | (with_reducible refine leafRI ?_) | (with_reducible refine leafRB ?_) | (with_reducible refine leafI ?_) | (with_reducible refine leafB ?_) | ((with_reducible refine (?_ : (_ : Int) = _)); (with_reducible rfl)) | ((with_reducible refine (?_ : (_ : List (List Value)) = _)); (with_reducible rfl)) | ((with_reducible refine (?_ : (_ : Int) ≠ 0)); (first | assumption | omega | (simp only [ints_len] at *; omega) | (simp; omega))) | ((with_reducible refine (?_ : (_ : Int) ≤ _)); (first | assumption | omega | (simp only [ints_len] at *; omega) | (simp; omega))) | ((with_reducible refine (?_ : (_ : Int) < _)); (first | assumption | omega | (simp only [ints_len] at *; omega) | (simp; omega))) | ((with_reducible refine (?_ : (_ : Nat) ≤ _)); (first | omega | (simp only [List.length_cons, List.length_nil]; omega) | (simp; omega))) | ((with_reducible refine (?_ : (_ : Nat) = _)); (first | (with_reducible rfl) | (simp; done) | (simp only [fr_len]) | (simp only [ints_len]) | omega | (simp [*]; done))) | (refine And.intro ?_ ?_) | (intro h; first | (exact Bool.noConfusion h) | ((simp only [decide_eq_true_eq, decide_eq_false_iff_not, beq_iff_eq, bne_iff_ne, ne_eq, beq_eq_false_iff_ne, bne_eq_false_iff_eq, Bool.not_eq_true', Bool.not_eq_false', Bool.not_eq_true, Bool.not_eq_false, Int.not_le, Int.not_lt, Bool.and_eq_true, Bool.or_eq_true, Bool.or_eq_false_iff, Bool.and_eq_false_iff] at h); (try (first | (exact Bool.noConfusion h) | (exact (h trivial).elim)))) | skip) | ((refine (?_ : ACall _ _ _ _ _ _ _)); first | ((apply acall (spec_moProper _ _ _ _)); (focus (repeat' (first | exact rfl | (refine And.intro ?_ ?_) | (simp only [ints_len]; done) | (simp; done) | omega)))) | ((apply acall (spec_l1Abs _ ?_ ?_)); (focus (repeat' (first | exact rfl | (refine And.intro ?_ ?_) | (simp only [ints_len]; done) | (simp; done) | omega)))) | ((apply acall (spec_moForm _ _ _ _)); (focus (repeat' (first | exact rfl | (refine And.intro ?_ ?_) | (simp only [ints_len]; done) | (simp; done) | omega)))) | ((apply acall (spec_foGood _ _ _)); (focus (repeat' (first | exact rfl | (refine And.intro ?_ ?_) | (simp only [ints_len]; done) | (simp; done) | omega)))) | ((apply acall (hc () ?_)); (focus (repeat' (first | exact rfl | (refine And.intro ?_ ?_) | (simp only [ints_len]; done) | (simp; done) | omega)))) | ((apply acall (hs () ?_ ?_)); (focus (repeat' (first | exact rfl | (refine And.intro ?_ ?_) | (simp only [ints_len]; done) | (simp; done) | omega))))) | ((with_reducible refine (?_ : chk _ _ = true)); kernel_rfl) | exact trivial)
    all_goals (first | (clear hs hc; skip) | skip)
    all_goals try (exfalso; clear R1 R2 R3 R4 R5 R6 R7 R8 hw1 hw2; simp_all only [reduceCtorEq]; done)
    all_goals first
      | assumption
      | (exact R8 () h)
      | (rw [R1 () h])
      | (rw [R2 () h])
      | (rw [R3 () ‹_› ‹_› h])
      | (rw [R4 () ‹_› ‹_› ‹_› ‹_› h])
      | (rw [R5 () ‹_› ‹_› ‹_› ‹_› h])
      | (rw [R6 () ‹_› ‹_› ‹_› ‹_› ‹_› h])
      | (rw [R7 () ‹_› ‹_› ‹_› h])
      | skip
    · rename_i g; rw [R1 () g]
    · rename_i g; rw [R1 () g]
    · rename_i g1 g2 g3 g4 g5; rw [R4 () g1 g2 g3 g4 g5]
    · rename_i g1 g2 g3 g4 g5; rw [R4 () g1 g2 g3 g4 g5]
  · have hR : acR (p, q, r, s) (a, b, c, d) = (false, false) := by
      unfold acR acG
      rw [if_neg (by simp only [Bool.and_eq_true, decide_eq_true_eq]; grind)]
    rw [hR]
    refine afun_intro fn38 (by simp) rfl (by repeat' (first | exact trivial | (simp; done) | refine ⟨?_, ?_⟩)) ?_
    unfold ac38
    repeat' (first | ((with_reducible refine (?_ : (_ : Bool) = _)); (with_reducible rfl)) | ((with_reducible refine (?_ : (_ : Nat × Nat) = _)); (with_reducible rfl)) | (with_reducible refine leafRI ?_) | (with_reducible refine leafRB ?_) | (with_reducible refine leafI ?_) | (with_reducible refine leafB ?_) | ((with_reducible refine (?_ : (_ : Int) = _)); (with_reducible rfl)) | ((with_reducible refine (?_ : (_ : List (List Value)) = _)); (with_reducible rfl)) | ((with_reducible refine (?_ : (_ : Int) ≠ 0)); (first | assumption | omega | (simp only [ints_len] at *; omega) | (simp; omega))) | ((with_reducible refine (?_ : (_ : Int) ≤ _)); (first | assumption | omega | (simp only [ints_len] at *; omega) | (simp; omega))) | ((with_reducible refine (?_ : (_ : Int) < _)); (first | assumption | omega | (simp only [ints_len] at *; omega) | (simp; omega))) | ((with_reducible refine (?_ : (_ : Nat) ≤ _)); (first | omega | (simp only [List.length_cons, List.length_nil]; omega) | (simp; omega))) | ((with_reducible refine (?_ : (_ : Nat) = _)); (first | (with_reducible rfl) | (simp; done) | (simp only [fr_len]) | (simp only [ints_len]) | omega | (simp [*]; done))) | (refine And.intro ?_ ?_) | (intro h; first | (exact Bool.noConfusion h) | ((simp only [decide_eq_true_eq, decide_eq_false_iff_not, beq_iff_eq, bne_iff_ne, ne_eq, beq_eq_false_iff_ne, bne_eq_false_iff_eq, Bool.not_eq_true', Bool.not_eq_false', Bool.not_eq_true, Bool.not_eq_false, Int.not_le, Int.not_lt, Bool.and_eq_true, Bool.or_eq_true, Bool.or_eq_false_iff, Bool.and_eq_false_iff] at h); (try (first | (exact Bool.noConfusion h) | (exact (h trivial).elim)))) | skip) | ((refine (?_ : ACall _ _ _ _ _ _ _)); first | ((apply acall (spec_moProper _ _ _ _)); (focus (repeat' (first | exact rfl | (refine And.intro ?_ ?_) | (simp only [ints_len]; done) | (simp; done) | omega))))) | ((with_reducible refine (?_ : chk _ _ = true)); kernel_rfl) | exact trivial)
    all_goals first | rfl | (exact absurd (And.intro (by assumption) h) hp)

end Go.Proofs.Ytfmkcdggdikmdaa
