/- SameCycle. -/
import Derived.Test.YtfmkcdggdikmdaaHA
namespace Go.Proofs.Ytfmkcdggdikmdaa
open Go.RowKit
set_option linter.unusedSimpArgs false
set_option linter.unusedVariables false
set_option maxRecDepth 100000
set_option maxHeartbeats 2000000

def dsF (f : T3) : Int := dsc f.1 f.2.1 f.2.2
def rcT (f : T3) : T3 × T4 × Bool := if cgG f then rcR (dsF f) f else (z3, z4, false)
noncomputable def cyT (f : T3) : List T3 := cyO (dsF f) f (cyP (dsF f) f)
theorem rcT_CG {f : T3} (h : (rcT f).2.2 = true) : CG (dsF (rcT f).1) (rcT f).1 := by
  unfold rcT at h ⊢
  by_cases hg : cgG f = true
  · rw [if_pos hg] at h ⊢
    obtain ⟨h1, h2⟩ := rcR_cyc (IG_of hg) h
    have e : dsF (rcR (dsF f) f).1 = dsF f := h1.dsc
    rw [e]
    exact ⟨h1, h2⟩
  · rw [if_neg hg] at h; cases h
theorem cyT_len {f : T3} (h : CG (dsF f) f) : (cyT f).length ≤ 2016 := by
  rw [cyT, cyO_len]
  exact (cyP_spec h.g h.c).2.1

theorem spec_cyReduceT (a b c : Int) (h : cgG (a, b, c) = true) : AFun Try.prog 103 [] [Fo a b c] (P3 (c3 (rcT (a, b, c)).1) (c4 (rcT (a, b, c)).2.1) (rcT (a, b, c)).2.2) [] [] := by
  rw [rcT, if_pos h]
  exact spec_cyReduce _ a b c (IG_of h)

theorem impl_ReduceT (a b c : Int) : AFun Try.prog 113 [] [Fo a b c] (P3 (c3 (rcT (a, b, c)).1) (c4 (rcT (a, b, c)).2.1) (rcT (a, b, c)).2.2) [] [] := impl_ReduceIndefinite a b c

theorem spec_cyCycleT (a b c : Int) (h : CG (dsF (a, b, c)) (a, b, c)) : AFun Try.prog 106 [] [Fo a b c] (.c (.slc (0, 0) (cyT (a, b, c)).length)) [] [FF (cyT (a, b, c))] := by
  have := spec_cyCycle _ a b c h
  rw [cyT, cyO_len]
  exact this

theorem impl_cycleT (a b c : Int) (h : CG (dsF (a, b, c)) (a, b, c)) : AFun Try.prog 115 [] [Fo a b c] (.c (.slc (0, 0) (cyT (a, b, c)).length)) [] [FF (cyT (a, b, c))] := by
  have := impl_cycle _ a b c h
  rw [cyT, cyO_len]
  exact this


def scB (f g : T3) : Bool := (rcT f).2.2 && (rcT g).2.2
noncomputable def scE (f g : T3) : Bool := scB f g && decide ((rcT g).1 ∈ cyT (rcT f).1)

theorem rcT_no {f : T3} (h : cgG f = false) : (rcT f).2.2 = false := by simp [rcT, h]

theorem spec_SameCycle (a b c d e f : Int) (hd : dsc a b c = dsc d e f) : AFun Try.prog 66 [] [Fo a b c, Fo d e f] (PBB (scE (a, b, c) (d, e, f)) (scB (a, b, c) (d, e, f))) [] [] := by
  have k1 : (rcT (a, b, c)).2.2 = true → CG (dsF (rcT (a, b, c)).1) (rcT (a, b, c)).1 := rcT_CG
  have k2 := rcT_no (f := (a, b, c))
  have k3 := rcT_no (f := (d, e, f))
  have hle : 2016 ≤ 1000000000 := by omega
  unfold scE scB
  refine afun_intro fn66 (by simp) rfl (by repeat' (first | exact trivial | (simp; done) | refine ⟨?_, ?_⟩)) ?_
  unfold ac66
  repeat' (first | ((with_reducible refine (?_ : (_ : Bool) = _)); (with_reducible rfl)) | ((with_reducible refine (?_ : (_ : Nat × Nat) = _)); (with_reducible rfl)) | (with_reducible refine leafRI ?_) | (with_reducible refine leafRB ?_) | (with_reducible refine leafI ?_) | (with_reducible refine leafB ?_) | ((with_reducible refine (?_ : (_ : Int) = _)); (with_reducible rfl)) | ((with_reducible refine (?_ : (_ : List (List Value)) = _)); (with_reducible rfl)) | ((with_reducible refine (?_ : (_ : Int) ≠ 0)); (first | assumption | omega | (simp only [ints_len] at *; omega) | (simp; omega))) | ((with_reducible refine (?_ : (_ : Int) ≤ _)); (first | assumption | omega | (simp only [ints_len] at *; omega) | (simp; omega))) | ((with_reducible refine (?_ : (_ : Int) < _)); (first | assumption | omega | (simp only [ints_len] at *; omega) | (simp; omega))) | ((with_reducible refine (?_ : (_ : Nat) ≤ _)); (first | omega | (simp only [List.length_cons, List.length_nil]; omega) | (simp; omega))) | ((with_reducible refine (?_ : (_ : Nat) = _)); (first | (with_reducible rfl) | (simp; done) | (simp only [fr_len]) | (simp only [ints_len]) | omega | (simp [*]; done))) | (refine And.intro ?_ ?_) | (intro h; first | (exact Bool.noConfusion h) | ((simp only [decide_eq_true_eq, decide_eq_false_iff_not, beq_iff_eq, bne_iff_ne, ne_eq, beq_eq_false_iff_ne, bne_eq_false_iff_eq, Bool.not_eq_true', Bool.not_eq_false', Bool.not_eq_true, Bool.not_eq_false, Int.not_le, Int.not_lt, Bool.and_eq_true, Bool.or_eq_true, Bool.or_eq_false_iff, Bool.and_eq_false_iff] at h); (try (first | (exact Bool.noConfusion h) | (exact (h trivial).elim)))) | skip) | ((refine (?_ : ACall _ _ _ _ _ _ _)); first | ((apply acall (spec_cyGood _ _ _)); (focus (repeat' (first | exact rfl | (refine And.intro ?_ ?_) | (simp only [ints_len]; done) | (simp; done) | omega)))) | ((apply acall (spec_cyReduceT _ _ _ ?_)); (focus (repeat' (first | exact rfl | (refine And.intro ?_ ?_) | (simp only [ints_len]; done) | (simp; done) | omega)))) | ((apply acall (spec_foDisc _ _ _)); (focus (repeat' (first | exact rfl | (refine And.intro ?_ ?_) | (simp only [ints_len]; done) | (simp; done) | omega)))) | ((apply acall (spec_cyCycleT _ _ _ ?_)); (focus (repeat' (first | exact rfl | (refine And.intro ?_ ?_) | (simp only [ints_len]; done) | (simp; done) | omega)))) | ((apply acall (spec_cyHas _ _ _ _ ?_)); (focus (repeat' (first | exact rfl | (refine And.intro ?_ ?_) | (simp only [ints_len]; done) | (simp; done) | omega))))) | ((with_reducible refine (?_ : chk _ _ = true)); kernel_rfl) | exact trivial)
  all_goals first | assumption | (exact absurd hd h) | (have hk := k1 (by assumption); first | exact hk | (exact Nat.le_trans (cyT_len hk) hle)) | (simp_all; done) | skip

theorem impl_SameCycle (a b c d e f : Int) : AFun Try.prog 73 [] [Fo a b c, Fo d e f] (PBB (scE (a, b, c) (d, e, f)) (scB (a, b, c) (d, e, f))) [] [] := by
  have k1 : (rcT (a, b, c)).2.2 = true → CG (dsF (rcT (a, b, c)).1) (rcT (a, b, c)).1 := rcT_CG
  have e3 : ∀ x : T3, (x.1, x.2.1, x.2.2) = x := fun _ => rfl
  have hle : 2016 ≤ 1000000000 := by omega
  unfold scE scB
  refine afun_intro fn73 (by simp) rfl (by repeat' (first | exact trivial | (simp; done) | refine ⟨?_, ?_⟩)) ?_
  unfold ac73
  repeat' (first | ((with_reducible refine (?_ : (_ : Bool) = _)); (with_reducible rfl)) | ((with_reducible refine (?_ : (_ : Nat × Nat) = _)); (with_reducible rfl)) | (with_reducible refine leafRI ?_) | (with_reducible refine leafRB ?_) | (with_reducible refine leafI ?_) | (with_reducible refine leafB ?_) | ((with_reducible refine (?_ : (_ : Int) = _)); (with_reducible rfl)) | ((with_reducible refine (?_ : (_ : List (List Value)) = _)); (with_reducible rfl)) | ((with_reducible refine (?_ : (_ : Int) ≠ 0)); (first | assumption | omega | (simp only [ints_len] at *; omega) | (simp; omega))) | ((with_reducible refine (?_ : (_ : Int) ≤ _)); (first | assumption | omega | (simp only [ints_len] at *; omega) | (simp; omega))) | ((with_reducible refine (?_ : (_ : Int) < _)); (first | assumption | omega | (simp only [ints_len] at *; omega) | (simp; omega))) | ((with_reducible refine (?_ : (_ : Nat) ≤ _)); (first | omega | (simp only [List.length_cons, List.length_nil]; omega) | (simp; omega))) | ((with_reducible refine (?_ : (_ : Nat) = _)); (first | (with_reducible rfl) | (simp; done) | (simp only [fr_len]) | (simp only [ints_len]) | omega | (simp [*]; done))) | (refine And.intro ?_ ?_) | (intro h; first | (exact Bool.noConfusion h) | ((simp only [decide_eq_true_eq, decide_eq_false_iff_not, beq_iff_eq, bne_iff_ne, ne_eq, beq_eq_false_iff_ne, bne_eq_false_iff_eq, Bool.not_eq_true', Bool.not_eq_false', Bool.not_eq_true, Bool.not_eq_false, Int.not_le, Int.not_lt, Bool.and_eq_true, Bool.or_eq_true, Bool.or_eq_false_iff, Bool.and_eq_false_iff] at h); (try (first | (exact Bool.noConfusion h) | (exact (h trivial).elim)))) | skip) | ((refine (?_ : ACall _ _ _ _ _ _ _)); first | ((apply acall (impl_ReduceT _ _ _)); (focus (repeat' (first | exact rfl | (refine And.intro ?_ ?_) | (simp only [ints_len]; done) | (simp; done) | omega)))) | ((apply acall (impl_cycleT _ _ _ ?_)); (focus (repeat' (first | exact rfl | (refine And.intro ?_ ?_) | (simp only [ints_len]; done) | (simp; done) | omega)))) | ((apply acall (impl_hasForm _ _ _ _ ?_)); (focus (repeat' (first | exact rfl | (refine And.intro ?_ ?_) | (simp only [ints_len]; done) | (simp; done) | omega))))) | ((with_reducible refine (?_ : chk _ _ = true)); kernel_rfl) | exact trivial)
  all_goals first | (have hk := k1 (by assumption); first | exact hk | (exact Nat.le_trans (cyT_len hk) hle)) | (simp_all; done) | skip

end Go.Proofs.Ytfmkcdggdikmdaa
