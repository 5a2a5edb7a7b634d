/- The law on conjugate matrices: joined. -/
import Derived.Test.YtdgfnmkiabjfnaaTF
namespace Go.Proofs.Ytdgfnmkiabjfnaa
open Go.RowKit
set_option linter.unusedSimpArgs false
set_option linter.unusedVariables false
set_option maxRecDepth 100000
set_option maxHeartbeats 2000000

theorem claw_Conjugates (v v' : Value) (l l' : List Int) (hl : l.length ≤ 9223372036854775807) (hb : ∀ n ∈ l, 0 ≤ n ∧ n ≤ 255) (hb' : ∀ n ∈ l', 0 ≤ n ∧ n ≤ 255) : AFun Try.prog 3 [] [By v l, By v' l'] (Bo true) [] [] := by
  have hc := laws_big v v' l l' hl
  by_cases hbig : 1048576 < l.length ∨ 1048576 - l.length < l'.length
  · rw [show (decide (1048576 < l.length) || decide (1048576 - l.length < l'.length)) = true by simp only [Bool.or_eq_true, decide_eq_true_eq]; omega] at hc
    refine afun_intro fn3 rfl rfl (by repeat' (first | exact trivial | (simp; done) | refine ⟨?_, ?_⟩)) ?_
    unfold ac3
    repeat' (first | ((with_reducible refine (?_ : (_ : Bool) = _)); (with_reducible rfl)) | ((with_reducible refine (?_ : (_ : Nat × Nat) = _)); (with_reducible rfl)) | (with_reducible refine leafRI ?_) | (with_reducible refine leafRB ?_) | (with_reducible refine leafI ?_) | (with_reducible refine leafB ?_) | ((with_reducible refine (?_ : (_ : Int) = _)); (with_reducible rfl)) | ((with_reducible refine (?_ : (_ : List (List Value)) = _)); (with_reducible rfl)) | ((with_reducible refine (?_ : (_ : Int) ≠ 0)); (first | assumption | omega | (simp; done) | (simp only [ints_len] at *; omega) | (simp; omega))) | ((with_reducible refine (?_ : (_ : Int) ≤ _)); (first | assumption | omega | (simp; done) | (simp only [ints_len] at *; omega) | (simp; omega))) | ((with_reducible refine (?_ : (_ : Int) < _)); (first | assumption | omega | (simp; done) | (simp only [ints_len] at *; omega) | (simp; omega))) | ((with_reducible refine (?_ : (_ : Nat) ≤ _)); (first | omega | (simp only [List.length_cons, List.length_nil]; omega) | (simp [ints]; done) | (simp; omega))) | ((with_reducible refine (?_ : (_ : Nat) < _)); (first | omega | (simp only [List.length_cons, List.length_nil]; omega) | (simp [ints]; done) | (simp; omega))) | ((with_reducible refine (?_ : (_ : Nat) = _)); (first | (with_reducible rfl) | (simp; done) | (simp only [fr_len]) | (simp only [ints_len]) | omega | (simp [*]; done))) | (refine And.intro ?_ ?_) | (intro h; first | (exact Bool.noConfusion h) | ((simp only [decide_eq_true_eq, decide_eq_false_iff_not, beq_iff_eq, bne_iff_ne, ne_eq, beq_eq_false_iff_ne, bne_eq_false_iff_eq, Bool.not_eq_true', Bool.not_eq_false', Bool.not_eq_true, Bool.not_eq_false, Int.not_le, Int.not_lt, Bool.and_eq_true, Bool.or_eq_true, Bool.or_eq_false_iff, Bool.and_eq_false_iff] at h); (try (first | (exact Bool.noConfusion h) | (exact (h trivial).elim)))) | skip) | ((refine (?_ : ACall _ _ _ _ _ _ _)); first | ((apply acall (hc)); (focus ((repeat' (first | exact rfl | (refine And.intro ?_ ?_) | (simp only [ints_len]; done))); done)))) | ((with_reducible refine (?_ : chk _ _ = true)); kernel_rfl) | ((with_reducible refine (?_ : (_ : IntKind) = _)); (with_reducible rfl)) | ((with_reducible refine (?_ : eqC (C.pvw _ _ _) (C.pvw _ _ _))); exact rfl) | ((with_reducible refine (?_ : eqC (C.pv (Value.int IntKind.u64 _)) _)); exact rfl) | exact trivial)
  rw [show (decide (1048576 < l.length) || decide (1048576 - l.length < l'.length)) = false by rw [Bool.or_eq_false_iff, decide_eq_false_iff_not, decide_eq_false_iff_not]; omega] at hc
  obtain ⟨⟨p, q, u, d⟩, ⟨a, b, c, e⟩, d1⟩ := DrawConjugateMatrix_ex v l ⟨by omega, hb⟩
  obtain ⟨⟨x, y, z, w⟩, d2⟩ := DrawFixedForm_ex v' l' ⟨by omega, hb'⟩
  have k3 := impl_FixedForm2 x y z w
  have k4 := spec_FixedForm2 x y z w
  have k5 : (prp (x, y, z, w) && num z && num (wrap64 (w - x)) && num (wrap64 (-y))) = true → AFun Try.prog 16 [] [Fo (if prp (x, y, z, w) && num z && num (wrap64 (w - x)) && num (wrap64 (-y)) then (z, wrap64 (w - x), wrap64 (-y)) else z3).1 (if prp (x, y, z, w) && num z && num (wrap64 (w - x)) && num (wrap64 (-y)) then (z, wrap64 (w - x), wrap64 (-y)) else z3).2.1 (if prp (x, y, z, w) && num z && num (wrap64 (w - x)) && num (wrap64 (-y)) then (z, wrap64 (w - x), wrap64 (-y)) else z3).2.2, Ma x y z w] (.tup [(true, c3 (if prp (x, y, z, w) && num z && num (wrap64 (w - x)) && num (wrap64 (-y)) then (z, wrap64 (w - x), wrap64 (-y)) else z3)), (false, [cB true])]) [] [] := fun h => by
    rw [if_pos h]
    simp only [Bool.and_eq_true] at h
    obtain ⟨⟨⟨h1, h2⟩, h3⟩, h4⟩ := h
    exact impl_SubstituteF x y z w h1 h2 h3 h4
  have g1 := impl_ConjugateMatrix p q u d a b c e
  have g2 := spec_ConjugateMatrix p q u d a b c e
  by_cases hg : cjB (p, q, u, d) (a, b, c, e) = true
  · have J := cj_ok hg
    rw [hg] at g1 g2
    have hm := J.pm
    have hn := J.pn
    have ht := ac_conj J
    have ho := J.order
    have hk := J.kdI
    have o1 := impl_MatrixOrder p q u d
    have o3 := impl_KindOfMatrix p q u d
    rw [hm] at o1 o3
    have hpw : 0 < moO (p, q, u, d) → AFun Try.prog 12 [] [Ma p q u d, I (moO (p, q, u, d))] (PM (1, 0, 0, 1) true) [] [] := fun h => by
      obtain ⟨P, h6⟩ := pw_order hm h
      have := impl_MatrixPower p q u d (moO (p, q, u, d)) hm (by omega) (by omega) P.num
      rw [P.one] at this
      exact this
    clear J
    generalize cjM (p, q, u, d) (a, b, c, e) = n at *
    obtain ⟨n1, n2, n3, n4⟩ := n
    have o2 := impl_MatrixOrder n1 n2 n3 n4
    have o4 := impl_KindOfMatrix n1 n2 n3 n4
    rw [hn, ← ho] at o2
    rw [hn, ← hk] at o4
    exact cj_yes v v' l l' p q u d a b c e (n1, n2, n3, n4) (x, y, z, w) _ _ _ _ _ _ hc d1 g1 g2 o1 o2 o3 o4 (impl_AreConjugate p q u d n1 n2 n3 n4) (spec_AreConjugate p q u d n1 n2 n3 n4) ht hpw d2 k3 k4 k5
  · have hg' : cjB (p, q, u, d) (a, b, c, e) = false := by simpa using hg
    rw [hg', cjM, if_neg hg] at g1 g2
    exact cj_no v v' l l' p q u d a b c e (x, y, z, w) _ _ hc d1 g1 g2 d2 k3 k4 k5

theorem law_Conjugates (l : List Int) (k : List Int) (w : World) (v : Value) (hv : CameB w l v) (u : Value) (hu : CameB w k u) : Calls Try.prog 3 #[v, u] w fun e w' => e = .returned (.bool (true)) ∧ Below w.heap.size w w' := by
  exact law_of_afunA (claw_Conjugates v u l k hv.len hv.byte hu.byte) w ⟨⟨rfl, hv.view⟩, ⟨rfl, hu.view⟩, trivial⟩

end Go.Proofs.Ytdgfnmkiabjfnaa
