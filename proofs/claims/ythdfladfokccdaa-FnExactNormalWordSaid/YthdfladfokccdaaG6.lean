/- NormalWord. -/
import Derived.Test.YthdfladfokccdaaG5
namespace Go.Proofs.Ythdfladfokccdaa
open Go.RowKit
set_option linter.unusedSimpArgs false
set_option linter.unusedVariables false
set_option maxRecDepth 100000
set_option maxHeartbeats 2000000

/-! NormalWord -/
theorem wm_prp {g : Int} {l : List Int} (h : (wmO g l).isSome = true) : prp (wmM g l) = true := by
  obtain ⟨m, hm⟩ := Option.isSome_iff_exists.1 h
  have hw : wrd g l = true := by
    unfold wmO at hm
    split at hm
    · assumption
    · cases hm
  have hl := wrd_len hw
  have ha : l.all num = true := by unfold wrd at hw; simp only [Bool.and_eq_true] at hw; exact hw.2
  have hm' := hm
  rw [wmO, if_pos hw] at hm'
  have hg : numT (g, 0, 0, g) = true ∧ detZ (g, 0, 0, g) = 1 := by
    rcases hl.2.2 with e | e <;> subst e <;> exact ⟨by simp [numT, num], by simp [detZ]⟩
  obtain ⟨h1, h2⟩ := wmL_prp l true _ m hg.1 hg.2 ha hm'
  rw [wmM, hm]
  obtain ⟨p, q, r, s⟩ := m
  have h3 := numT_iff.1 h1
  exact prp_iff.2 ⟨h3.1, h3.2.1, h3.2.2.1, h3.2.2.2, h2⟩
def nwB (g : Int) (l : List Int) : Bool := (wmO g l).isSome && mxB (wmM g l)
def nwG (g : Int) (l : List Int) : Int := if nwB g l then mwG (wmM g l) else 0
def nwL (g : Int) (l : List Int) : List Int := if nwB g l then mwL (wmM g l) else []
theorem nw_yes {g : Int} {l : List Int} (h : (wmO g l).isSome = true) : nwB g l = mxB (wmM g l) ∧ nwG g l = mxG (wmM g l) ∧ nwL g l = mxL (wmM g l) := by simp [nwB, nwG, nwL, mxG, mxL, h]
theorem nw_no {g : Int} {l : List Int} (h : (wmO g l).isSome = false) : nwB g l = false ∧ nwG g l = 0 ∧ nwL g l = [] := by simp [nwB, nwG, nwL, h]

theorem spec_NormalWord (g : Int) (l : List Int) (_lg : -9223372036854775808 ≤ g) (_ug : g ≤ 9223372036854775807) (hl : l.length ≤ 1000000000) : AFun Try.prog 38 [] [Wo g l] (PW (nwG g l) (nwL g l).length (nwB g l)) [] [FI (nwL g l)] := by
  cases hO : (wmO g l).isSome with
  | false =>
    obtain ⟨e1, e2, e3⟩ := nw_no hO
    rw [e1, e2, e3]
    refine afun_intro fn38 (by simp) rfl (by repeat' (first | exact trivial | (simp; done) | refine ⟨?_, ?_⟩)) ?_
    unfold ac38
    repeat' (first | ((with_reducible refine (?_ : (_ : Bool) = _)); (with_reducible rfl)) | ((with_reducible refine (?_ : (_ : Nat × Nat) = _)); (with_reducible rfl)) | (with_reducible refine leafRI ?_) | (with_reducible refine leafRB ?_) | (with_reducible refine leafI ?_) | (with_reducible refine leafB ?_) | ((with_reducible refine (?_ : (_ : Int) = _)); (with_reducible rfl)) | ((with_reducible refine (?_ : (_ : List (List Value)) = _)); (with_reducible rfl)) | ((with_reducible refine (?_ : (_ : Int) ≠ 0)); (first | assumption | omega | (simp only [ints_len] at *; omega) | (simp; omega))) | ((with_reducible refine (?_ : (_ : Int) ≤ _)); (first | assumption | omega | (simp only [ints_len] at *; omega) | (simp; omega))) | ((with_reducible refine (?_ : (_ : Int) < _)); (first | assumption | omega | (simp only [ints_len] at *; omega) | (simp; omega))) | ((with_reducible refine (?_ : (_ : Nat) ≤ _)); (first | omega | (simp only [List.length_cons, List.length_nil]; omega) | (simp; omega))) | ((with_reducible refine (?_ : (_ : Nat) = _)); (first | (with_reducible rfl) | (simp; done) | (simp only [fr_len]) | (simp only [ints_len]) | omega | (simp [*]; done))) | (refine And.intro ?_ ?_) | (intro h; first | (exact Bool.noConfusion h) | ((simp only [decide_eq_true_eq, decide_eq_false_iff_not, beq_iff_eq, bne_iff_ne, ne_eq, beq_eq_false_iff_ne, bne_eq_false_iff_eq, Bool.not_eq_true', Bool.not_eq_false', Bool.not_eq_true, Bool.not_eq_false, Int.not_le, Int.not_lt, Bool.and_eq_true, Bool.or_eq_true, Bool.or_eq_false_iff, Bool.and_eq_false_iff] at h); (try (first | (exact Bool.noConfusion h) | (exact (h trivial).elim)))) | skip) | ((refine (?_ : ACall _ _ _ _ _ _ _)); first | ((apply acall (spec_WordMatrix _ _ ?_ ?_ ?_)); (focus (repeat' (first | exact rfl | (refine And.intro ?_ ?_) | (simp only [ints_len]; done) | (simp; done) | omega))))) | ((with_reducible refine (?_ : chk _ _ = true)); kernel_rfl) | exact trivial)
    all_goals (first | assumption | omega | (rw [hO] at h; cases h; done) | rfl)
  | true =>
    obtain ⟨e1, e2, e3⟩ := nw_yes hO
    have hP := wm_prp hO
    obtain ⟨k1, k2, k3⟩ := mk_yes hP
    rw [e1, e2, e3]
    generalize hm : wmM g l = m at *
    obtain ⟨p, q, r, s⟩ := m
    obtain ⟨b1, b2⟩ := prp_bd hP
    have hc : ∀ x, AFun Try.prog 34 [] [Wo g l] (PM (wmM g l) x) [] [] → AFun Try.prog 34 [] [Wo g l] (PM (p, q, r, s) x) [] [] := fun x h => by rw [hm] at h; exact h
    refine afun_intro fn38 (by simp) rfl (by repeat' (first | exact trivial | (simp; done) | refine ⟨?_, ?_⟩)) ?_
    unfold ac38
    repeat' (first | ((with_reducible refine (?_ : (_ : Bool) = _)); (with_reducible rfl)) | ((with_reducible refine (?_ : (_ : Nat × Nat) = _)); (with_reducible rfl)) | (with_reducible refine leafRI ?_) | (with_reducible refine leafRB ?_) | (with_reducible refine leafI ?_) | (with_reducible refine leafB ?_) | ((with_reducible refine (?_ : (_ : Int) = _)); (with_reducible rfl)) | ((with_reducible refine (?_ : (_ : List (List Value)) = _)); (with_reducible rfl)) | ((with_reducible refine (?_ : (_ : Int) ≠ 0)); (first | assumption | omega | (simp only [ints_len] at *; omega) | (simp; omega))) | ((with_reducible refine (?_ : (_ : Int) ≤ _)); (first | assumption | omega | (simp only [ints_len] at *; omega) | (simp; omega))) | ((with_reducible refine (?_ : (_ : Int) < _)); (first | assumption | omega | (simp only [ints_len] at *; omega) | (simp; omega))) | ((with_reducible refine (?_ : (_ : Nat) ≤ _)); (first | omega | (simp only [List.length_cons, List.length_nil]; omega) | (simp; omega))) | ((with_reducible refine (?_ : (_ : Nat) = _)); (first | (with_reducible rfl) | (simp; done) | (simp only [fr_len]) | (simp only [ints_len]) | omega | (simp [*]; done))) | (refine And.intro ?_ ?_) | (intro h; first | (exact Bool.noConfusion h) | ((simp only [decide_eq_true_eq, decide_eq_false_iff_not, beq_iff_eq, bne_iff_ne, ne_eq, beq_eq_false_iff_ne, bne_eq_false_iff_eq, Bool.not_eq_true', Bool.not_eq_false', Bool.not_eq_true, Bool.not_eq_false, Int.not_le, Int.not_lt, Bool.and_eq_true, Bool.or_eq_true, Bool.or_eq_false_iff, Bool.and_eq_false_iff] at h); (try (first | (exact Bool.noConfusion h) | (exact (h trivial).elim)))) | skip) | ((refine (?_ : ACall _ _ _ _ _ _ _)); first | ((apply acall (hc _ (spec_WordMatrix _ _ ?_ ?_ ?_))); (focus (repeat' (first | exact rfl | (refine And.intro ?_ ?_) | (simp only [ints_len]; done) | (simp; done) | omega)))) | ((apply acall (spec_MatrixWord _ _ _ _)); (focus (repeat' (first | exact rfl | (refine And.intro ?_ ?_) | (simp only [ints_len]; done) | (simp; done) | omega))))) | ((with_reducible refine (?_ : chk _ _ = true)); kernel_rfl) | exact trivial)
    all_goals (first | assumption | omega | (rw [hO] at h; cases h; done) | (first | exact k1 | exact k2 | (rw [k3]; done) | rfl))

theorem impl_NormalWord (g : Int) (l : List Int) (_lg : -9223372036854775808 ≤ g) (_ug : g ≤ 9223372036854775807) (hl : l.length ≤ 1000000000) : AFun Try.prog 39 [] [Wo g l] (PW (nwG g l) (nwL g l).length (nwB g l)) [] [FI (nwL g l)] := by
  cases hO : (wmO g l).isSome with
  | false =>
    obtain ⟨e1, e2, e3⟩ := nw_no hO
    rw [e1, e2, e3]
    refine afun_intro fn39 (by simp) rfl (by repeat' (first | exact trivial | (simp; done) | refine ⟨?_, ?_⟩)) ?_
    unfold ac39
    repeat' (first | ((with_reducible refine (?_ : (_ : Bool) = _)); (with_reducible rfl)) | ((with_reducible refine (?_ : (_ : Nat × Nat) = _)); (with_reducible rfl)) | (with_reducible refine leafRI ?_) | (with_reducible refine leafRB ?_) | (with_reducible refine leafI ?_) | (with_reducible refine leafB ?_) | ((with_reducible refine (?_ : (_ : Int) = _)); (with_reducible rfl)) | ((with_reducible refine (?_ : (_ : List (List Value)) = _)); (with_reducible rfl)) | ((with_reducible refine (?_ : (_ : Int) ≠ 0)); (first | assumption | omega | (simp only [ints_len] at *; omega) | (simp; omega))) | ((with_reducible refine (?_ : (_ : Int) ≤ _)); (first | assumption | omega | (simp only [ints_len] at *; omega) | (simp; omega))) | ((with_reducible refine (?_ : (_ : Int) < _)); (first | assumption | omega | (simp only [ints_len] at *; omega) | (simp; omega))) | ((with_reducible refine (?_ : (_ : Nat) ≤ _)); (first | omega | (simp only [List.length_cons, List.length_nil]; omega) | (simp; omega))) | ((with_reducible refine (?_ : (_ : Nat) = _)); (first | (with_reducible rfl) | (simp; done) | (simp only [fr_len]) | (simp only [ints_len]) | omega | (simp [*]; done))) | (refine And.intro ?_ ?_) | (intro h; first | (exact Bool.noConfusion h) | ((simp only [decide_eq_true_eq, decide_eq_false_iff_not, beq_iff_eq, bne_iff_ne, ne_eq, beq_eq_false_iff_ne, bne_eq_false_iff_eq, Bool.not_eq_true', Bool.not_eq_false', Bool.not_eq_true, Bool.not_eq_false, Int.not_le, Int.not_lt, Bool.and_eq_true, Bool.or_eq_true, Bool.or_eq_false_iff, Bool.and_eq_false_iff] at h); (try (first | (exact Bool.noConfusion h) | (exact (h trivial).elim)))) | skip) | ((refine (?_ : ACall _ _ _ _ _ _ _)); first | ((apply acall (impl_WordMatrix _ _ ?_ ?_ ?_)); (focus (repeat' (first | exact rfl | (refine And.intro ?_ ?_) | (simp only [ints_len]; done) | (simp; done) | omega))))) | ((with_reducible refine (?_ : chk _ _ = true)); kernel_rfl) | exact trivial)
    all_goals (first | assumption | omega | (rw [hO] at h; cases h; done) | rfl)
  | true =>
    obtain ⟨e1, e2, e3⟩ := nw_yes hO
    have hP := wm_prp hO
    obtain ⟨k1, k2, k3⟩ := mk_yes hP
    rw [e1, e2, e3]
    generalize hm : wmM g l = m at *
    obtain ⟨p, q, r, s⟩ := m
    obtain ⟨b1, b2⟩ := prp_bd hP
    have hc : ∀ x, AFun Try.prog 35 [] [Wo g l] (PM (wmM g l) x) [] [] → AFun Try.prog 35 [] [Wo g l] (PM (p, q, r, s) x) [] [] := fun x h => by rw [hm] at h; exact h
    refine afun_intro fn39 (by simp) rfl (by repeat' (first | exact trivial | (simp; done) | refine ⟨?_, ?_⟩)) ?_
    unfold ac39
    repeat' (first | ((with_reducible refine (?_ : (_ : Bool) = _)); (with_reducible rfl)) | ((with_reducible refine (?_ : (_ : Nat × Nat) = _)); (with_reducible rfl)) | (with_reducible refine leafRI ?_) | (with_reducible refine leafRB ?_) | (with_reducible refine leafI ?_) | (with_reducible refine leafB ?_) | ((with_reducible refine (?_ : (_ : Int) = _)); (with_reducible rfl)) | ((with_reducible refine (?_ : (_ : List (List Value)) = _)); (with_reducible rfl)) | ((with_reducible refine (?_ : (_ : Int) ≠ 0)); (first | assumption | omega | (simp only [ints_len] at *; omega) | (simp; omega))) | ((with_reducible refine (?_ : (_ : Int) ≤ _)); (first | assumption | omega | (simp only [ints_len] at *; omega) | (simp; omega))) | ((with_reducible refine (?_ : (_ : Int) < _)); (first | assumption | omega | (simp only [ints_len] at *; omega) | (simp; omega))) | ((with_reducible refine (?_ : (_ : Nat) ≤ _)); (first | omega | (simp only [List.length_cons, List.length_nil]; omega) | (simp; omega))) | ((with_reducible refine (?_ : (_ : Nat) = _)); (first | (with_reducible rfl) | (simp; done) | (simp only [fr_len]) | (simp only [ints_len]) | omega | (simp [*]; done))) | (refine And.intro ?_ ?_) | (intro h; first | (exact Bool.noConfusion h) | ((simp only [decide_eq_true_eq, decide_eq_false_iff_not, beq_iff_eq, bne_iff_ne, ne_eq, beq_eq_false_iff_ne, bne_eq_false_iff_eq, Bool.not_eq_true', Bool.not_eq_false', Bool.not_eq_true, Bool.not_eq_false, Int.not_le, Int.not_lt, Bool.and_eq_true, Bool.or_eq_true, Bool.or_eq_false_iff, Bool.and_eq_false_iff] at h); (try (first | (exact Bool.noConfusion h) | (exact (h trivial).elim)))) | skip) | ((refine (?_ : ACall _ _ _ _ _ _ _)); first | ((apply acall (hc _ (impl_WordMatrix _ _ ?_ ?_ ?_))); (focus (repeat' (first | exact rfl | (refine And.intro ?_ ?_) | (simp only [ints_len]; done) | (simp; done) | omega)))) | ((apply acall (impl_wordOf _ _ _ _ ?_ ?_)); (focus (repeat' (first | exact rfl | (refine And.intro ?_ ?_) | (simp only [ints_len]; done) | (simp; done) | omega))))) | ((with_reducible refine (?_ : chk _ _ = true)); kernel_rfl) | exact trivial)
    all_goals (first | assumption | omega | (rw [hO] at h; cases h; done) | (first | exact k1 | exact k2 | (rw [k3]; done) | rfl))


theorem nwL_len (g : Int) (l : List Int) : (nwL g l).length ≤ 40 := by
  unfold nwL
  split
  · rename_i h
    have : wrd (mwG (wmM g l)) (mwL (wmM g l)) = true := by simp [nwB, mxB] at h; exact h.2
    exact (wrd_len this).2.1
  · simp

theorem claw_NormalWord (g : Int) (l : List Int) (_lg : -9223372036854775808 ≤ g) (_ug : g ≤ 9223372036854775807) (hz : l.length ≤ 9223372036854775807) : AFun Try.prog 11 [] [Wo g l] (Bo true) [] [] := by
  have hl := nwL_len g l
  refine afun_intro fn11 (by simp) rfl (by repeat' (first | exact trivial | (simp; done) | refine ⟨?_, ?_⟩)) ?_
  unfold ac11
  repeat' (first | ((with_reducible refine (?_ : (_ : Bool) = _)); (with_reducible rfl)) | ((with_reducible refine (?_ : (_ : Nat × Nat) = _)); (with_reducible rfl)) | (with_reducible refine leafRI ?_) | (with_reducible refine leafRB ?_) | (with_reducible refine leafI ?_) | (with_reducible refine leafB ?_) | ((with_reducible refine (?_ : (_ : Int) = _)); (with_reducible rfl)) | ((with_reducible refine (?_ : (_ : List (List Value)) = _)); (with_reducible rfl)) | ((with_reducible refine (?_ : (_ : Int) ≠ 0)); (first | assumption | omega | (simp only [ints_len] at *; omega) | (simp; omega))) | ((with_reducible refine (?_ : (_ : Int) ≤ _)); (first | assumption | omega | (simp only [ints_len] at *; omega) | (simp; omega))) | ((with_reducible refine (?_ : (_ : Int) < _)); (first | assumption | omega | (simp only [ints_len] at *; omega) | (simp; omega))) | ((with_reducible refine (?_ : (_ : Nat) ≤ _)); (first | omega | (simp only [List.length_cons, List.length_nil]; omega) | (simp; omega))) | ((with_reducible refine (?_ : (_ : Nat) = _)); (first | (with_reducible rfl) | (simp; done) | (simp only [fr_len]) | (simp only [ints_len]) | omega | (simp [*]; done))) | (refine And.intro ?_ ?_) | (intro h; first | (exact Bool.noConfusion h) | ((simp only [decide_eq_true_eq, decide_eq_false_iff_not, beq_iff_eq, bne_iff_ne, ne_eq, beq_eq_false_iff_ne, bne_eq_false_iff_eq, Bool.not_eq_true', Bool.not_eq_false', Bool.not_eq_true, Bool.not_eq_false, Int.not_le, Int.not_lt, Bool.and_eq_true, Bool.or_eq_true, Bool.or_eq_false_iff, Bool.and_eq_false_iff] at h); (try (first | (exact Bool.noConfusion h) | (exact (h trivial).elim)))) | skip) | ((refine (?_ : ACall _ _ _ _ _ _ _)); first | ((apply acall (laws_szWord _ _ _ ?_ ?_ ?_)); (focus (repeat' (first | exact rfl | (refine And.intro ?_ ?_) | (simp only [ints_len]; done) | (simp; done) | omega)))) | ((apply acall (laws_toWord _ _ ?_)); (focus (repeat' (first | exact rfl | (refine And.intro ?_ ?_) | (simp only [ints_len]; done) | (simp; done) | omega)))) | ((apply acall (spec_NormalWord _ _ ?_ ?_ ?_)); (focus (repeat' (first | exact rfl | (refine And.intro ?_ ?_) | (simp only [ints_len]; done) | (simp; done) | omega)))) | ((apply acall (impl_NormalWord _ _ ?_ ?_ ?_)); (focus (repeat' (first | exact rfl | (refine And.intro ?_ ?_) | (simp only [ints_len]; done) | (simp; done) | omega)))) | ((apply acall (laws_eqWord _ _ _ _ ?_ ?_)); (focus (repeat' (first | exact rfl | (refine And.intro ?_ ?_) | (simp only [ints_len]; done) | (simp; done) | omega)))) | ((apply alent (laws_markWord _ _ _ ?_ ?_ ?_)); (focus (exact rfl)); (focus (repeat' (first | exact rfl | (refine And.intro ?_ ?_) | (simp only [ints_len]; done) | (simp; done) | omega))); (focus (exact rfl))) | ((apply acall (laws_heldWord _ _ _ ?_ ?_ ?_)); (focus (repeat' (first | exact rfl | (refine And.intro ?_ ?_) | (simp only [ints_len]; done) | (simp; done) | omega))))) | ((with_reducible refine (?_ : chk _ _ = true)); kernel_rfl) | exact trivial)
  all_goals (first | omega | (simp_all; done) | skip)

theorem law_NormalWord (g : Int) (l : List Int) (w : World) (_lg : -9223372036854775808 ≤ g) (_ug : g ≤ 9223372036854775807) (hz : l.length ≤ 9223372036854775807) (v : Value) (hv : Came w l v) : Calls Try.prog 11 #[.agg #[.int .i64 g, v]] w fun e w' => e = .returned (.bool (true)) ∧ Below w.heap.size w w' := by
  exact law_of_afunA (claw_NormalWord g l _lg _ug hz) w ⟨arg_word hv, trivial⟩

end Go.Proofs.Ythdfladfokccdaa
