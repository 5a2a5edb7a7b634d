/- RiverForm. -/
import Derived.Test.YtnlabjnjcfapiaaHK
namespace Go.Proofs.Ytnlabjnjcfapiaa
open Go.RowKit
set_option linter.unusedSimpArgs false
set_option linter.unusedVariables false
set_option maxRecDepth 100000
set_option maxHeartbeats 2000000

abbrev rc3 (f : T3) : List C := [cI f.1, cI f.2.1, cI f.2.2]
abbrev rc4 (m : T4) : List C := [cI m.1, cI m.2.1, cI m.2.2.1, cI m.2.2.2]
abbrev RP (x : T3 × T4) (b : Bool) : V := .tup [(true, rc3 x.1), (true, rc4 x.2), (false, [cB b])]

theorem spec_l1SignR (n : Int) : AFun Try.prog 34 [] [I n] (I n.sign) [] [] := by
  refine afun_intro fn34 rfl rfl (by repeat' (first | exact trivial | (simp; done) | refine ⟨?_, ?_⟩)) ?_
  unfold ac34
  repeat' (first | ((with_reducible refine (?_ : (_ : Bool) = _)); (with_reducible rfl)) | ((with_reducible refine (?_ : (_ : Nat × Nat) = _)); (with_reducible rfl)) | (with_reducible refine leafRI ?_) | (with_reducible refine leafRB ?_) | (with_reducible refine leafI ?_) | (with_reducible refine leafB ?_) | ((with_reducible refine (?_ : (_ : Int) = _)); (with_reducible rfl)) | ((with_reducible refine (?_ : (_ : List (List Value)) = _)); (with_reducible rfl)) | ((with_reducible refine (?_ : (_ : Int) ≠ 0)); (first | assumption | omega | (simp; done) | (simp only [ints_len] at *; omega) | (simp; omega))) | ((with_reducible refine (?_ : (_ : Int) ≤ _)); (first | assumption | omega | (simp; done) | (simp only [ints_len] at *; omega) | (simp; omega))) | ((with_reducible refine (?_ : (_ : Int) < _)); (first | assumption | omega | (simp; done) | (simp only [ints_len] at *; omega) | (simp; omega))) | ((with_reducible refine (?_ : (_ : Nat) ≤ _)); (first | omega | (simp only [List.length_cons, List.length_nil]; omega) | (simp [ints]; done) | (simp; omega))) | ((with_reducible refine (?_ : (_ : Nat) < _)); (first | omega | (simp only [List.length_cons, List.length_nil]; omega) | (simp [ints]; done) | (simp; omega))) | ((with_reducible refine (?_ : (_ : Nat) = _)); (first | (with_reducible rfl) | (simp; done) | (simp only [fr_len]) | (simp only [ints_len]) | omega | (simp [*]; done))) | (refine And.intro ?_ ?_) | (intro h; first | (exact Bool.noConfusion h) | ((simp only [decide_eq_true_eq, decide_eq_false_iff_not, beq_iff_eq, bne_iff_ne, ne_eq, beq_eq_false_iff_ne, bne_eq_false_iff_eq, Bool.not_eq_true', Bool.not_eq_false', Bool.not_eq_true, Bool.not_eq_false, Int.not_le, Int.not_lt, Bool.and_eq_true, Bool.or_eq_true, Bool.or_eq_false_iff, Bool.and_eq_false_iff] at h); (try (first | (exact Bool.noConfusion h) | (exact (h trivial).elim)))) | skip) | ((with_reducible refine (?_ : chk _ _ = true)); kernel_rfl) | ((with_reducible refine (?_ : (_ : IntKind) = _)); (with_reducible rfl)) | ((with_reducible refine (?_ : eqC (C.pvw _ _ _) (C.pvw _ _ _))); exact rfl) | ((with_reducible refine (?_ : eqC (C.pv (Value.int IntKind.u64 _)) _)); exact rfl) | exact trivial)
  · exact (Int.sign_eq_one_of_pos h).symm
  · exact (Int.sign_eq_neg_one_of_neg h).symm
  · rw [show n = 0 by omega]; rfl


/-- Has it a river? -/
def rvG (f : T3) : Bool := num f.1 && num f.2.1 && num f.2.2 && decide (1 ≤ dsc f.1 f.2.1 f.2.2) && decide (dsc f.1 f.2.1 f.2.2 ≤ 2000) && !isSq (dsc f.1 f.2.1 f.2.2)
theorem rvG_ok {a b c : Int} (h : rvG (a, b, c) = true) : RvI (dsc a b c) (a, b, c) := by
  simp only [rvG, num, Bool.and_eq_true, decide_eq_true_eq] at h
  obtain ⟨⟨⟨⟨⟨h1, h2⟩, h3⟩, h4⟩, h5⟩, _⟩ := h
  refine ⟨h1, h2, h3, ?_, h4, h5⟩
  have m1 := mul_bd (a := b) (b := b) (A := 1000000) (B := 1000000) h2.1 h2.2 h2.1 h2.2
  have m2 := mul_bd (a := 4 * a) (b := c) (A := 4000000) (B := 1000000) (by omega) (by omega) h3.1 h3.2
  show b * b - 4 * a * c = dsc a b c
  unfold dsc
  simp (disch := omega) only [wrap_small]

theorem spec_tpWet (a b c : Int) : AFun Try.prog 14 [] [Fo a b c] (Bo (rvG (a, b, c))) [] [] := by
  refine afun_intro fn14 rfl rfl (by repeat' (first | exact trivial | (simp; done) | refine ⟨?_, ?_⟩)) ?_
  unfold ac14
  repeat' (first | ((with_reducible refine (?_ : (_ : Bool) = _)); (with_reducible rfl)) | ((with_reducible refine (?_ : (_ : Nat × Nat) = _)); (with_reducible rfl)) | (with_reducible refine leafRI ?_) | (with_reducible refine leafRB ?_) | (with_reducible refine leafI ?_) | (with_reducible refine leafB ?_) | ((with_reducible refine (?_ : (_ : Int) = _)); (with_reducible rfl)) | ((with_reducible refine (?_ : (_ : List (List Value)) = _)); (with_reducible rfl)) | ((with_reducible refine (?_ : (_ : Int) ≠ 0)); (first | assumption | omega | (simp; done) | (simp only [ints_len] at *; omega) | (simp; omega))) | ((with_reducible refine (?_ : (_ : Int) ≤ _)); (first | assumption | omega | (simp; done) | (simp only [ints_len] at *; omega) | (simp; omega))) | ((with_reducible refine (?_ : (_ : Int) < _)); (first | assumption | omega | (simp; done) | (simp only [ints_len] at *; omega) | (simp; omega))) | ((with_reducible refine (?_ : (_ : Nat) ≤ _)); (first | omega | (simp only [List.length_cons, List.length_nil]; omega) | (simp [ints]; done) | (simp; omega))) | ((with_reducible refine (?_ : (_ : Nat) < _)); (first | omega | (simp only [List.length_cons, List.length_nil]; omega) | (simp [ints]; done) | (simp; omega))) | ((with_reducible refine (?_ : (_ : Nat) = _)); (first | (with_reducible rfl) | (simp; done) | (simp only [fr_len]) | (simp only [ints_len]) | omega | (simp [*]; done))) | (refine And.intro ?_ ?_) | (intro h; first | (exact Bool.noConfusion h) | ((simp only [decide_eq_true_eq, decide_eq_false_iff_not, beq_iff_eq, bne_iff_ne, ne_eq, beq_eq_false_iff_ne, bne_eq_false_iff_eq, Bool.not_eq_true', Bool.not_eq_false', Bool.not_eq_true, Bool.not_eq_false, Int.not_le, Int.not_lt, Bool.and_eq_true, Bool.or_eq_true, Bool.or_eq_false_iff, Bool.and_eq_false_iff] at h); (try (first | (exact Bool.noConfusion h) | (exact (h trivial).elim)))) | skip) | ((refine (?_ : ACall _ _ _ _ _ _ _)); first | ((apply acall (spec_foGood _ _ _)); (focus (repeat' (first | exact rfl | (refine And.intro ?_ ?_) | (simp only [ints_len]; done) | (simp; done) | omega)))) | ((apply acall (spec_foDisc _ _ _)); (focus (repeat' (first | exact rfl | (refine And.intro ?_ ?_) | (simp only [ints_len]; done) | (simp; done) | omega)))) | ((apply acall (spec_l1In _ _ _)); (focus (repeat' (first | exact rfl | (refine And.intro ?_ ?_) | (simp only [ints_len]; done) | (simp; done) | omega)))) | ((apply acall (spec_nuSquare _ ?_)); (focus (repeat' (first | exact rfl | (refine And.intro ?_ ?_) | (simp only [ints_len]; done) | (simp; done) | omega))))) | ((with_reducible refine (?_ : chk _ _ = true)); kernel_rfl) | ((with_reducible refine (?_ : (_ : IntKind) = _)); (with_reducible rfl)) | ((with_reducible refine (?_ : eqC (C.pvw _ _ _) (C.pvw _ _ _))); exact rfl) | ((with_reducible refine (?_ : eqC (C.pv (Value.int IntKind.u64 _)) _)); exact rfl) | exact trivial)
  all_goals first | omega | (unfold rvG; grind) | skip

theorem impl_hasRiver (a b c : Int) : AFun Try.prog 22 [] [Fo a b c] (Bo (rvG (a, b, c))) [] [] := by
  refine afun_intro fn22 rfl rfl (by repeat' (first | exact trivial | (simp; done) | refine ⟨?_, ?_⟩)) ?_
  unfold ac22
  repeat' (first | ((with_reducible refine (?_ : (_ : Bool) = _)); (with_reducible rfl)) | ((with_reducible refine (?_ : (_ : Nat × Nat) = _)); (with_reducible rfl)) | (with_reducible refine leafRI ?_) | (with_reducible refine leafRB ?_) | (with_reducible refine leafI ?_) | (with_reducible refine leafB ?_) | ((with_reducible refine (?_ : (_ : Int) = _)); (with_reducible rfl)) | ((with_reducible refine (?_ : (_ : List (List Value)) = _)); (with_reducible rfl)) | ((with_reducible refine (?_ : (_ : Int) ≠ 0)); (first | assumption | omega | (simp; done) | (simp only [ints_len] at *; omega) | (simp; omega))) | ((with_reducible refine (?_ : (_ : Int) ≤ _)); (first | assumption | omega | (simp; done) | (simp only [ints_len] at *; omega) | (simp; omega))) | ((with_reducible refine (?_ : (_ : Int) < _)); (first | assumption | omega | (simp; done) | (simp only [ints_len] at *; omega) | (simp; omega))) | ((with_reducible refine (?_ : (_ : Nat) ≤ _)); (first | omega | (simp only [List.length_cons, List.length_nil]; omega) | (simp [ints]; done) | (simp; omega))) | ((with_reducible refine (?_ : (_ : Nat) < _)); (first | omega | (simp only [List.length_cons, List.length_nil]; omega) | (simp [ints]; done) | (simp; omega))) | ((with_reducible refine (?_ : (_ : Nat) = _)); (first | (with_reducible rfl) | (simp; done) | (simp only [fr_len]) | (simp only [ints_len]) | omega | (simp [*]; done))) | (refine And.intro ?_ ?_) | (intro h; first | (exact Bool.noConfusion h) | ((simp only [decide_eq_true_eq, decide_eq_false_iff_not, beq_iff_eq, bne_iff_ne, ne_eq, beq_eq_false_iff_ne, bne_eq_false_iff_eq, Bool.not_eq_true', Bool.not_eq_false', Bool.not_eq_true, Bool.not_eq_false, Int.not_le, Int.not_lt, Bool.and_eq_true, Bool.or_eq_true, Bool.or_eq_false_iff, Bool.and_eq_false_iff] at h); (try (first | (exact Bool.noConfusion h) | (exact (h trivial).elim)))) | skip) | ((refine (?_ : ACall _ _ _ _ _ _ _)); first | ((apply acall (impl_IsForm _ _ _)); (focus (repeat' (first | exact rfl | (refine And.intro ?_ ?_) | (simp only [ints_len]; done) | (simp; done) | omega)))) | ((apply acall (impl_disc _ _ _)); (focus (repeat' (first | exact rfl | (refine And.intro ?_ ?_) | (simp only [ints_len]; done) | (simp; done) | omega)))) | ((apply acall (impl_isSquare _ ?_)); (focus (repeat' (first | exact rfl | (refine And.intro ?_ ?_) | (simp only [ints_len]; done) | (simp; done) | omega))))) | ((with_reducible refine (?_ : chk _ _ = true)); kernel_rfl) | ((with_reducible refine (?_ : (_ : IntKind) = _)); (with_reducible rfl)) | ((with_reducible refine (?_ : eqC (C.pvw _ _ _) (C.pvw _ _ _))); exact rfl) | ((with_reducible refine (?_ : eqC (C.pv (Value.int IntKind.u64 _)) _)); exact rfl) | exact trivial)
  all_goals first | omega | (unfold rvG; grind) | skip

theorem spec_coShift (t : Int) : AFun Try.prog 37 [] [I t] (Ma 1 t 0 1) [] [] := by
  refine afun_intro fn37 rfl rfl (by repeat' (first | exact trivial | (simp; done) | refine ⟨?_, ?_⟩)) ?_
  unfold ac37
  repeat' (first | ((with_reducible refine (?_ : (_ : Bool) = _)); (with_reducible rfl)) | ((with_reducible refine (?_ : (_ : Nat × Nat) = _)); (with_reducible rfl)) | (with_reducible refine leafRI ?_) | (with_reducible refine leafRB ?_) | (with_reducible refine leafI ?_) | (with_reducible refine leafB ?_) | ((with_reducible refine (?_ : (_ : Int) = _)); (with_reducible rfl)) | ((with_reducible refine (?_ : (_ : List (List Value)) = _)); (with_reducible rfl)) | ((with_reducible refine (?_ : (_ : Int) ≠ 0)); (first | assumption | omega | (simp; done) | (simp only [ints_len] at *; omega) | (simp; omega))) | ((with_reducible refine (?_ : (_ : Int) ≤ _)); (first | assumption | omega | (simp; done) | (simp only [ints_len] at *; omega) | (simp; omega))) | ((with_reducible refine (?_ : (_ : Int) < _)); (first | assumption | omega | (simp; done) | (simp only [ints_len] at *; omega) | (simp; omega))) | ((with_reducible refine (?_ : (_ : Nat) ≤ _)); (first | omega | (simp only [List.length_cons, List.length_nil]; omega) | (simp [ints]; done) | (simp; omega))) | ((with_reducible refine (?_ : (_ : Nat) < _)); (first | omega | (simp only [List.length_cons, List.length_nil]; omega) | (simp [ints]; done) | (simp; omega))) | ((with_reducible refine (?_ : (_ : Nat) = _)); (first | (with_reducible rfl) | (simp; done) | (simp only [fr_len]) | (simp only [ints_len]) | omega | (simp [*]; done))) | (refine And.intro ?_ ?_) | (intro h; first | (exact Bool.noConfusion h) | ((simp only [decide_eq_true_eq, decide_eq_false_iff_not, beq_iff_eq, bne_iff_ne, ne_eq, beq_eq_false_iff_ne, bne_eq_false_iff_eq, Bool.not_eq_true', Bool.not_eq_false', Bool.not_eq_true, Bool.not_eq_false, Int.not_le, Int.not_lt, Bool.and_eq_true, Bool.or_eq_true, Bool.or_eq_false_iff, Bool.and_eq_false_iff] at h); (try (first | (exact Bool.noConfusion h) | (exact (h trivial).elim)))) | skip) | ((with_reducible refine (?_ : chk _ _ = true)); kernel_rfl) | ((with_reducible refine (?_ : (_ : IntKind) = _)); (with_reducible rfl)) | ((with_reducible refine (?_ : eqC (C.pvw _ _ _) (C.pvw _ _ _))); exact rfl) | ((with_reducible refine (?_ : eqC (C.pv (Value.int IntKind.u64 _)) _)); exact rfl) | exact trivial)
  all_goals rfl


/-! the loop -/
def rvE (x : T3 × T4) : T3 × T4 := if x.1.1 < 0 then (swF x.1, mulT x.2 swM4) else x
/-- What holds at the loop's head. -/
structure RvL (D : Int) (f0 : T3) (f : T3) (m : T4) : Prop where
  i : RvI D f
  e : rvL f m = rvL f0 (1, 0, 0, 1)
theorem sgn_pos (a c : Int) : 0 < wrap64 (a.sign * c.sign) ↔ 0 < a * c := by
  rw [← Int.sign_mul]
  rcases Int.lt_trichotomy (a * c) 0 with h | h | h
  · rw [Int.sign_eq_neg_one_of_neg h, wrap_small (by omega) (by omega)]; omega
  · rw [h, Int.sign_zero, wrap_small (by omega) (by omega)]
  · rw [Int.sign_eq_one_of_pos h, wrap_small (by omega) (by omega)]; omega
theorem RvL.sw {D : Int} {f0 f : T3} {m : T4} (J : RvL D f0 f m) (h : 0 < f.1 * f.2.2) (h2 : 0 < (nbF f).1 * (nbF f).2.2) : RvL D f0 (swF (nbF f)) (mulT (mulT m (nbM f)) swM4) ∧ rvU (swF (nbF f)) < rvU f :=
  ⟨⟨swF_RvI (nbF_RvI J.i (mul_pos_ne h)), by rw [← J.e, rvL_sw J.i h h2]⟩, rvU_sw J.i h h2⟩
theorem RvL.nb {D : Int} {f0 f : T3} {m : T4} (J : RvL D f0 f m) (h : 0 < f.1 * f.2.2) (h2 : ¬ 0 < (nbF f).1 * (nbF f).2.2) : RvL D f0 (nbF f) (mulT m (nbM f)) ∧ rvU (nbF f) < rvU f :=
  ⟨⟨nbF_RvI J.i (mul_pos_ne h), by rw [← J.e, rvL_nb J.i h h2]⟩, rvU_nb J.i h h2⟩
theorem rvT_mach {D : Int} {f : T3} (I : RvI D f) (ha : f.1 ≠ 0) : wrap64 ((wrap64 (wrap64 (f.1.natAbs - wrap64 (f.1.natAbs - f.2.1) % wrap64 (2 * f.1.natAbs)) - f.2.1)).tdiv (wrap64 (2 * f.1))) = rvT f ∧ 0 < wrap64 (2 * (f.1.natAbs : Int)) ∧ wrap64 (2 * (f.1.natAbs : Int)) ≤ 9223372036854775807 ∧ wrap64 (2 * f.1) ≠ 0 := by
  obtain ⟨h1, h2, h3⟩ := rvB_ex ha
  have ja := I.a
  have jb := I.b
  have e1 : wrap64 (2 * (f.1.natAbs : Int)) = 2 * f.1.natAbs := wrap_small (by omega) (by omega)
  have e2 : wrap64 ((f.1.natAbs : Int) - f.2.1) = f.1.natAbs - f.2.1 := wrap_small (by omega) (by omega)
  have e3 : (f.1.natAbs : Int) - ((f.1.natAbs : Int) - f.2.1) % (2 * f.1.natAbs) = rvB f := rfl
  have e4 : wrap64 (2 * f.1) = 2 * f.1 := wrap_small (by omega) (by omega)
  rw [e1, e2, e3, e4, wrap_small (n := rvB f) (by omega) (by omega), wrap_small (n := rvB f - f.2.1) (by omega) (by omega)]
  refine ⟨?_, by omega, by omega, by omega⟩
  have e5 : (rvB f - f.2.1).tdiv (2 * f.1) = rvT f := rfl
  rw [e5]
  have h4 : 2 * f.1 * rvT f = 2 * (f.1 * rvT f) := by rw [Int.mul_assoc]
  have e6 : (f.1 * rvT f).natAbs = f.1.natAbs * (rvT f).natAbs := Int.natAbs_mul _ _
  have e7 : 1 * (rvT f).natAbs ≤ f.1.natAbs * (rvT f).natAbs := Nat.mul_le_mul_right _ (by omega)
  exact wrap_small (by omega) (by omega)

theorem spec_tpRiver (D a b c : Int) (I : RvI D (a, b, c)) : AFun Try.prog 21 [] [Fo a b c] (.tup [(true, rc3 (rvE (rvL (a, b, c) (1, 0, 0, 1))).1), (true, rc4 (rvE (rvL (a, b, c) (1, 0, 0, 1))).2)]) [] [] := by
  refine afun_intro fn21 rfl rfl (by repeat' (first | exact trivial | (simp; done) | refine ⟨?_, ?_⟩)) ?_
  unfold ac21
  repeat' (first | ((with_reducible refine (?_ : (_ : Bool) = _)); (with_reducible rfl)) | ((with_reducible refine (?_ : (_ : Nat × Nat) = _)); (with_reducible rfl)) | (with_reducible refine leafRI ?_) | (with_reducible refine leafRB ?_) | (with_reducible refine leafI ?_) | (with_reducible refine leafB ?_) | ((with_reducible refine (?_ : (_ : Int) = _)); (with_reducible rfl)) | ((with_reducible refine (?_ : (_ : List (List Value)) = _)); (with_reducible rfl)) | ((with_reducible refine (?_ : (_ : Int) ≠ 0)); (first | assumption | omega | (simp; done) | (simp only [ints_len] at *; omega) | (simp; omega))) | ((with_reducible refine (?_ : (_ : Int) ≤ _)); (first | assumption | omega | (simp; done) | (simp only [ints_len] at *; omega) | (simp; omega))) | ((with_reducible refine (?_ : (_ : Int) < _)); (first | assumption | omega | (simp; done) | (simp only [ints_len] at *; omega) | (simp; omega))) | ((with_reducible refine (?_ : (_ : Nat) ≤ _)); (first | omega | (simp only [List.length_cons, List.length_nil]; omega) | (simp [ints]; done) | (simp; omega))) | ((with_reducible refine (?_ : (_ : Nat) < _)); (first | omega | (simp only [List.length_cons, List.length_nil]; omega) | (simp [ints]; done) | (simp; omega))) | ((with_reducible refine (?_ : (_ : Nat) = _)); (first | (with_reducible rfl) | (simp; done) | (simp only [fr_len]) | (simp only [ints_len]) | omega | (simp [*]; done))) | (refine And.intro ?_ ?_) | (intro h; first | (exact Bool.noConfusion h) | ((simp only [decide_eq_true_eq, decide_eq_false_iff_not, beq_iff_eq, bne_iff_ne, ne_eq, beq_eq_false_iff_ne, bne_eq_false_iff_eq, Bool.not_eq_true', Bool.not_eq_false', Bool.not_eq_true, Bool.not_eq_false, Int.not_le, Int.not_lt, Bool.and_eq_true, Bool.or_eq_true, Bool.or_eq_false_iff, Bool.and_eq_false_iff] at h); (try (first | (exact Bool.noConfusion h) | (exact (h trivial).elim)))) | skip) | ((with_reducible refine (?_ : chk _ _ = true)); kernel_rfl) | ((with_reducible refine (?_ : (_ : IntKind) = _)); (with_reducible rfl)) | ((with_reducible refine (?_ : eqC (C.pvw _ _ _) (C.pvw _ _ _))); exact rfl) | ((with_reducible refine (?_ : eqC (C.pv (Value.int IntKind.u64 _)) _)); exact rfl) | exact trivial)
  refine loop_rule (σ := T3 × T4) (fun s => []) (fun s => [((1, 0), .bx (rc3 s.1)), ((2, 0), .bx [cI 0, cI 0, cI 0]), ((3, 0), .bx [cI 0, cI 0, cI 0, cI 0]), ((4, 0), .bx (rc4 s.2)), ((5, 0), .bx [cI 0, cI (-1), cI 1, cI 0])]) (fun s => RvL D (a, b, c) s.1 s.2) (fun s => rvU s.1) (((a, b, c), (1, 0, 0, 1))) ?_ (by repeat' (first | exact trivial | exact rfl | (refine And.intro ?_ ?_))) (by repeat' (first | exact trivial | exact rfl | (refine And.intro ?_ ?_))) (fun s => ⟨rfl, rfl⟩) (fun s i h => by first | exact absurd h (Nat.not_lt_zero i) | (cases i with | zero => rfl | succ i => exact absurd (Nat.lt_of_succ_lt_succ h) (Nat.not_lt_zero i))) ?_
  · exact ⟨I, rfl⟩
  · rintro ⟨⟨x, y, z⟩, ⟨p, q, r, s⟩⟩ J
    dsimp only at J ⊢
    have sg := sgn_pos x z
    have jx := J.i.a
    dsimp only at jx
    have st : ¬ 0 < x * z → rvL (a, b, c) (1, 0, 0, 1) = ((x, y, z), (p, q, r, s)) := fun h => by rw [← J.e, rvL_stop h]
    have mt := fun h => rvT_mach J.i h
    have na := fun h => nb_act J.i h
    have nxs := J.sw
    have nxn := J.nb
    have sa := sw_act J.i
    have sb := fun h => sw_act (nbF_RvI J.i h)
    dsimp only [nbF] at mt na nxs nxn sa sb
    clear J
    repeat' (first | ((with_reducible refine (?_ : (_ : Bool) = _)); (with_reducible rfl)) | ((with_reducible refine (?_ : (_ : Nat × Nat) = _)); (with_reducible rfl)) | (with_reducible refine leafRI ?_) | (with_reducible refine leafRB ?_) | (with_reducible refine leafI ?_) | (with_reducible refine leafB ?_) | ((with_reducible refine (?_ : (_ : Int) = _)); (with_reducible rfl)) | ((with_reducible refine (?_ : (_ : List (List Value)) = _)); (with_reducible rfl)) | ((with_reducible refine (?_ : (_ : Int) ≠ 0)); (first | assumption | omega | (simp; done) | (simp only [ints_len] at *; omega) | (simp; omega))) | ((with_reducible refine (?_ : (_ : Int) ≤ _)); (first | assumption | omega | (simp; done) | (simp only [ints_len] at *; omega) | (simp; omega))) | ((with_reducible refine (?_ : (_ : Int) < _)); (first | assumption | omega | (simp; done) | (simp only [ints_len] at *; omega) | (simp; omega))) | ((with_reducible refine (?_ : (_ : Nat) ≤ _)); (first | omega | (simp only [List.length_cons, List.length_nil]; omega) | (simp [ints]; done) | (simp; omega))) | ((with_reducible refine (?_ : (_ : Nat) < _)); (first | omega | (simp only [List.length_cons, List.length_nil]; omega) | (simp [ints]; done) | (simp; omega))) | ((with_reducible refine (?_ : (_ : Nat) = _)); (first | (with_reducible rfl) | (simp; done) | (simp only [fr_len]) | (simp only [ints_len]) | omega | (simp [*]; done))) | (refine And.intro ?_ ?_) | (intro h; first | (exact Bool.noConfusion h) | ((simp only [decide_eq_true_eq, decide_eq_false_iff_not, beq_iff_eq, bne_iff_ne, ne_eq, beq_eq_false_iff_ne, bne_eq_false_iff_eq, Bool.not_eq_true', Bool.not_eq_false', Bool.not_eq_true, Bool.not_eq_false, Int.not_le, Int.not_lt, Bool.and_eq_true, Bool.or_eq_true, Bool.or_eq_false_iff, Bool.and_eq_false_iff] at h); (try (first | (exact Bool.noConfusion h) | (exact (h trivial).elim)))) | skip) | ((refine (?_ : ACall _ _ _ _ _ _ _)); first | ((apply acall (spec_l1SignR _)); (focus (repeat' (first | exact rfl | (refine And.intro ?_ ?_) | (simp only [ints_len]; done) | (simp; done) | omega)))) | ((apply acall (spec_l1Abs _ ?_ ?_)); (focus (repeat' (first | exact rfl | (refine And.intro ?_ ?_) | (simp only [ints_len]; done) | (simp; done) | omega)))) | ((apply acall (spec_nuMod _ _ ?_ ?_)); (focus (repeat' (first | exact rfl | (refine And.intro ?_ ?_) | (simp only [ints_len]; done) | (simp; done) | omega)))) | ((apply acall (spec_coShift _)); (focus (repeat' (first | exact rfl | (refine And.intro ?_ ?_) | (simp only [ints_len]; done) | (simp; done) | omega)))) | ((apply acall (spec_foAct _ _ _ _ _ _ _)); (focus (repeat' (first | exact rfl | (refine And.intro ?_ ?_) | (simp only [ints_len]; done) | (simp; done) | omega)))) | ((apply acall (spec_foMul _ _ _ _ _ _ _ _)); (focus (repeat' (first | exact rfl | (refine And.intro ?_ ?_) | (simp only [ints_len]; done) | (simp; done) | omega))))) | ((with_reducible refine (?_ : chk _ _ = true)); kernel_rfl) | ((with_reducible refine (?_ : (_ : IntKind) = _)); (with_reducible rfl)) | ((with_reducible refine (?_ : eqC (C.pvw _ _ _) (C.pvw _ _ _))); exact rfl) | ((with_reducible refine (?_ : eqC (C.pv (Value.int IntKind.u64 _)) _)); exact rfl) | exact trivial)
    · exact (mt (mul_pos_ne (sg.1 ‹_›))).2.2.2 h
    · rename_i hx0
      have hx := sg.1 hx0
      have ha := mul_pos_ne hx
      obtain ⟨tq, _, _, _⟩ := mt ha
      obtain ⟨n1, n2, n3⟩ := na ha
      obtain ⟨s1, s2, s3⟩ := sb ha
      (try dsimp only at h); (try dsimp only at tq); (try dsimp only at n1); (try dsimp only at n2); (try dsimp only at n3); (try dsimp only at s1); (try dsimp only at s2); (try dsimp only at s3)
      rw [tq, n1, n3] at h
      obtain ⟨K1, K2⟩ := nxs hx ((sgn_pos _ _).1 h)
      unfold fv at s1 s3
      unfold po at s2
      refine ⟨((_, _, _), (_, _, _, _)), ?_, ?_, none, And.intro rfl (And.intro (by repeat' (first | exact trivial | exact rfl | (refine And.intro ?_ ?_))) (by repeat' (first | exact trivial | exact rfl | (refine And.intro ?_ ?_))))⟩
      · dsimp only
        rw [tq, n1, n2, n3, s1, s2, s3]
        exact K1
      · dsimp only
        rw [tq, n1, n2, n3, s1, s2, s3]
        exact K2
    · rename_i hx0
      have hx := sg.1 hx0
      have ha := mul_pos_ne hx
      obtain ⟨tq, _, _, _⟩ := mt ha
      obtain ⟨n1, n2, n3⟩ := na ha
      (try dsimp only at h); (try dsimp only at tq); (try dsimp only at n1); (try dsimp only at n2); (try dsimp only at n3)
      rw [tq, n1, n3] at h
      obtain ⟨K1, K2⟩ := nxn hx (fun hc => by have := (sgn_pos _ _).2 hc; omega)
      unfold fv at n1 n3
      unfold po at n2
      refine ⟨((_, _, _), (_, _, _, _)), ?_, ?_, none, And.intro rfl (And.intro (by repeat' (first | exact trivial | exact rfl | (refine And.intro ?_ ?_))) (by repeat' (first | exact trivial | exact rfl | (refine And.intro ?_ ?_))))⟩
      · dsimp only
        rw [tq, n1, n2, n3]
        exact K1
      · dsimp only
        rw [tq, n1, n2, n3]
        exact K2
    any_goals (exact (mt (mul_pos_ne (sg.1 h))).2.1)
    any_goals (exact (mt (mul_pos_ne (sg.1 h))).2.2.1)
    all_goals (first | omega | skip)
    all_goals
      rename_i hx0
      rw [st (fun hc => by have := sg.2 hc; omega)]
      first
        | (rw [rvE, if_pos h]
           first | exact sa.1 | exact sa.2.1 | exact sa.2.2 | rfl)
        | (rw [rvE, if_neg (Int.not_lt.2 h)])

/-- What RiverForm answers. -/
def rvO (f : T3) : T3 × T4 := rvE (rvL f (1, 0, 0, 1))
def rvN (x : T3 × T4) : Bool := (num x.1.1 && num x.1.2.1 && num x.1.2.2) && (num x.2.1 && num x.2.2.1 && num x.2.2.2.1 && num x.2.2.2.2)
def rvA (f : T3) : Bool := rvG f && rvN (rvO f)
def rvV (f : T3) : T3 × T4 := if rvA f then rvO f else ((0, 0, 0), (0, 0, 0, 0))

end Go.Proofs.Ytnlabjnjcfapiaa
