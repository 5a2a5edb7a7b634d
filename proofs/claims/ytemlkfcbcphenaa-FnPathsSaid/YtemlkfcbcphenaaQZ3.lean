/- Several texts in one: QL, QM, QN, QO. -/
import Derived.Test.YtemlkfcbcphenaaQZ2
import Derived.Test.YtemlkfcbcphenaaE21
/-! The law on paths. -/
namespace Go.Proofs.Ytemlkfcbcphenaa
open Go.RowKit
set_option linter.unusedSimpArgs false
set_option linter.unusedVariables false
set_option maxRecDepth 100000
set_option maxHeartbeats 2000000

abbrev By (v : Value) (l : List Int) : V := .c (.pvw v 1 (byts l))
theorem laws_big (v v' : Value) (l l' : List Int) (h : l.length ≤ 9223372036854775807) : AFun Try.prog 4 [] [By v l, By v' l'] (Bo (decide (1048576 < l.length) || decide (1048576 - l.length < l'.length))) [] [] := by
  have e1 := byts_len l
  have e2 := byts_len l'
  refine afun_intro fn4 rfl rfl (by repeat' (first | exact trivial | (simp; done) | refine ⟨?_, ?_⟩)) ?_
  unfold ac4
  repeat' (first | ((with_reducible refine (?_ : (_ : Bool) = _)); (with_reducible rfl)) | ((with_reducible refine (?_ : (_ : Nat × Nat) = _)); (with_reducible rfl)) | (with_reducible refine leafRI ?_) | (with_reducible refine leafRB ?_) | (with_reducible refine leafI ?_) | (with_reducible refine leafB ?_) | ((with_reducible refine (?_ : (_ : Int) = _)); (with_reducible rfl)) | ((with_reducible refine (?_ : (_ : List (List Value)) = _)); (with_reducible rfl)) | ((with_reducible refine (?_ : (_ : Int) ≠ 0)); (first | assumption | omega | (simp; done) | (simp only [ints_len] at *; omega) | (simp; omega))) | ((with_reducible refine (?_ : (_ : Int) ≤ _)); (first | assumption | omega | (simp; done) | (simp only [ints_len] at *; omega) | (simp; omega))) | ((with_reducible refine (?_ : (_ : Int) < _)); (first | assumption | omega | (simp; done) | (simp only [ints_len] at *; omega) | (simp; omega))) | ((with_reducible refine (?_ : (_ : Nat) ≤ _)); (first | omega | (simp only [List.length_cons, List.length_nil]; omega) | (simp [ints]; done) | (simp; omega))) | ((with_reducible refine (?_ : (_ : Nat) < _)); (first | omega | (simp only [List.length_cons, List.length_nil]; omega) | (simp [ints]; done) | (simp; omega))) | ((with_reducible refine (?_ : (_ : Nat) = _)); (first | (with_reducible rfl) | (simp; done) | (simp only [fr_len]) | (simp only [ints_len]) | omega | (simp [*]; done))) | (refine And.intro ?_ ?_) | (intro h; first | (exact Bool.noConfusion h) | ((simp only [decide_eq_true_eq, decide_eq_false_iff_not, beq_iff_eq, bne_iff_ne, ne_eq, beq_eq_false_iff_ne, bne_eq_false_iff_eq, Bool.not_eq_true', Bool.not_eq_false', Bool.not_eq_true, Bool.not_eq_false, Int.not_le, Int.not_lt, Bool.and_eq_true, Bool.or_eq_true, Bool.or_eq_false_iff, Bool.and_eq_false_iff] at h); (try (first | (exact Bool.noConfusion h) | (exact (h trivial).elim)))) | skip) | ((with_reducible refine (?_ : chk _ _ = true)); kernel_rfl) | ((with_reducible refine (?_ : (_ : IntKind) = _)); (with_reducible rfl)) | ((with_reducible refine (?_ : eqC (C.pvw _ _ _) (C.pvw _ _ _))); exact rfl) | ((with_reducible refine (?_ : eqC (C.pv (Value.int IntKind.u64 _)) _)); exact rfl) | exact trivial)
  · symm
    rw [Bool.or_eq_true]
    exact .inl (by rw [decide_eq_true_eq]; omega)
  · rw [wrap_small (by omega) (by omega), Bool.eq_iff_iff]
    simp only [Bool.or_eq_true, decide_eq_true_eq]
    omega

theorem laws_sameInts (a b : List Int) (ha : a.length ≤ 1000000000) (hb : b.length ≤ 1000000000) : AFun Try.prog 8 [] [Vw a, Vw b] (Bo (decide (a = b))) [] [] := by
  refine afun_intro fn8 rfl rfl (by repeat' (first | exact trivial | (simp; done) | refine ⟨?_, ?_⟩)) ?_
  unfold ac8
  have e1 := ints_len a
  have e2 := ints_len b
  repeat' (first | ((with_reducible refine (?_ : (_ : Bool) = _)); (with_reducible rfl)) | ((with_reducible refine (?_ : (_ : Nat × Nat) = _)); (with_reducible rfl)) | (with_reducible refine leafRI ?_) | (with_reducible refine leafRB ?_) | (with_reducible refine leafI ?_) | (with_reducible refine leafB ?_) | ((with_reducible refine (?_ : (_ : Int) = _)); (with_reducible rfl)) | ((with_reducible refine (?_ : (_ : List (List Value)) = _)); (with_reducible rfl)) | ((with_reducible refine (?_ : (_ : Int) ≠ 0)); (first | assumption | omega | (simp; done) | (simp only [ints_len] at *; omega) | (simp; omega))) | ((with_reducible refine (?_ : (_ : Int) ≤ _)); (first | assumption | omega | (simp; done) | (simp only [ints_len] at *; omega) | (simp; omega))) | ((with_reducible refine (?_ : (_ : Int) < _)); (first | assumption | omega | (simp; done) | (simp only [ints_len] at *; omega) | (simp; omega))) | ((with_reducible refine (?_ : (_ : Nat) ≤ _)); (first | omega | (simp only [List.length_cons, List.length_nil]; omega) | (simp [ints]; done) | (simp; omega))) | ((with_reducible refine (?_ : (_ : Nat) < _)); (first | omega | (simp only [List.length_cons, List.length_nil]; omega) | (simp [ints]; done) | (simp; omega))) | ((with_reducible refine (?_ : (_ : Nat) = _)); (first | (with_reducible rfl) | (simp; done) | (simp only [fr_len]) | (simp only [ints_len]) | omega | (simp [*]; done))) | (refine And.intro ?_ ?_) | (intro h; first | (exact Bool.noConfusion h) | ((simp only [decide_eq_true_eq, decide_eq_false_iff_not, beq_iff_eq, bne_iff_ne, ne_eq, beq_eq_false_iff_ne, bne_eq_false_iff_eq, Bool.not_eq_true', Bool.not_eq_false', Bool.not_eq_true, Bool.not_eq_false, Int.not_le, Int.not_lt, Bool.and_eq_true, Bool.or_eq_true, Bool.or_eq_false_iff, Bool.and_eq_false_iff] at h); (try (first | (exact Bool.noConfusion h) | (exact (h trivial).elim)))) | skip) | ((with_reducible refine (?_ : chk _ _ = true)); kernel_rfl) | ((with_reducible refine (?_ : (_ : IntKind) = _)); (with_reducible rfl)) | ((with_reducible refine (?_ : eqC (C.pvw _ _ _) (C.pvw _ _ _))); exact rfl) | ((with_reducible refine (?_ : eqC (C.pv (Value.int IntKind.u64 _)) _)); exact rfl) | exact trivial)
  · symm
    rw [decide_eq_false_iff_not]
    rintro rfl
    omega
  refine loop_rule (σ := Int) (fun s => [(13, I s)]) (fun _ => []) (fun s => 0 ≤ s ∧ s ≤ a.length ∧ ∀ j : Nat, j < s.toNat → a[j]? = b[j]?) (fun s => (a.length - s).toNat) (0) ?_ (by repeat' (first | exact trivial | exact rfl | (refine And.intro ?_ ?_))) trivial (fun s => ⟨rfl, rfl⟩) (fun s i h => by first | exact absurd h (Nat.not_lt_zero i) | (cases i with | zero => rfl | succ i => exact absurd (Nat.lt_of_succ_lt_succ h) (Nat.not_lt_zero i))) ?_
  · exact ⟨by omega, by omega, fun j h => by omega⟩
  · rintro i ⟨g1, g2, g3⟩
    repeat' (first | ((with_reducible refine (?_ : (_ : Bool) = _)); (with_reducible rfl)) | ((with_reducible refine (?_ : (_ : Nat × Nat) = _)); (with_reducible rfl)) | (with_reducible refine leafRI ?_) | (with_reducible refine leafRB ?_) | (with_reducible refine leafI ?_) | (with_reducible refine leafB ?_) | ((with_reducible refine (?_ : (_ : Int) = _)); (with_reducible rfl)) | ((with_reducible refine (?_ : (_ : List (List Value)) = _)); (with_reducible rfl)) | ((with_reducible refine (?_ : (_ : Int) ≠ 0)); (first | assumption | omega | (simp; done) | (simp only [ints_len] at *; omega) | (simp; omega))) | ((with_reducible refine (?_ : (_ : Int) ≤ _)); (first | assumption | omega | (simp; done) | (simp only [ints_len] at *; omega) | (simp; omega))) | ((with_reducible refine (?_ : (_ : Int) < _)); (first | assumption | omega | (simp; done) | (simp only [ints_len] at *; omega) | (simp; omega))) | ((with_reducible refine (?_ : (_ : Nat) ≤ _)); (first | omega | (simp only [List.length_cons, List.length_nil]; omega) | (simp [ints]; done) | (simp; omega))) | ((with_reducible refine (?_ : (_ : Nat) < _)); (first | omega | (simp only [List.length_cons, List.length_nil]; omega) | (simp [ints]; done) | (simp; omega))) | ((with_reducible refine (?_ : (_ : Nat) = _)); (first | (with_reducible rfl) | (simp; done) | (simp only [fr_len]) | (simp only [ints_len]) | omega | (simp [*]; done))) | ((with_reducible refine view_at ?_ ?_); (focus (constructor <;> (first | omega | (simp only [ints_len] at *; omega)))); intro n hn) | (refine And.intro ?_ ?_) | (intro h; first | (exact Bool.noConfusion h) | ((simp only [decide_eq_true_eq, decide_eq_false_iff_not, beq_iff_eq, bne_iff_ne, ne_eq, beq_eq_false_iff_ne, bne_eq_false_iff_eq, Bool.not_eq_true', Bool.not_eq_false', Bool.not_eq_true, Bool.not_eq_false, Int.not_le, Int.not_lt, Bool.and_eq_true, Bool.or_eq_true, Bool.or_eq_false_iff, Bool.and_eq_false_iff] at h); (try (first | (exact Bool.noConfusion h) | (exact (h trivial).elim)))) | skip) | ((with_reducible refine (?_ : chk _ _ = true)); kernel_rfl) | ((with_reducible refine (?_ : (_ : IntKind) = _)); (with_reducible rfl)) | ((with_reducible refine (?_ : eqC (C.pvw _ _ _) (C.pvw _ _ _))); exact rfl) | ((with_reducible refine (?_ : eqC (C.pv (Value.int IntKind.u64 _)) _)); exact rfl) | exact trivial)
    · symm
      rw [decide_eq_false_iff_not]
      rintro rfl
      simp_all
    · refine ⟨(wrap64 (i + 1)), ?_, ?_, none, And.intro rfl (And.intro (by repeat' (first | exact trivial | exact rfl | (refine And.intro ?_ ?_))) (by repeat' (first | exact trivial | exact rfl | (refine And.intro ?_ ?_))))⟩
      · rw [wrap_small (n := i + 1) (by omega) (by omega)]
        refine ⟨by omega, by omega, fun j hj => ?_⟩
        by_cases e : j = i.toNat
        · subst e; simp_all
        · exact g3 j (by omega)
      · rw [wrap_small (n := i + 1) (by omega) (by omega)]
        omega
    · symm
      rw [decide_eq_true_eq]
      apply List.ext_getElem?
      intro j
      by_cases e : j < a.length
      · exact g3 j (by omega)
      · rw [List.getElem?_eq_none (by omega), List.getElem?_eq_none (by omega)]

theorem impl_IsNumber (n : Int) : AFun Try.prog 15 [] [I n] (Bo (num n)) [] [] := by
  refine afun_intro fn15 rfl rfl (by repeat' (first | exact trivial | (simp; done) | refine ⟨?_, ?_⟩)) ?_
  unfold ac15
  repeat' (first | ((with_reducible refine (?_ : (_ : Bool) = _)); (with_reducible rfl)) | ((with_reducible refine (?_ : (_ : Nat × Nat) = _)); (with_reducible rfl)) | (with_reducible refine leafRI ?_) | (with_reducible refine leafRB ?_) | (with_reducible refine leafI ?_) | (with_reducible refine leafB ?_) | ((with_reducible refine (?_ : (_ : Int) = _)); (with_reducible rfl)) | ((with_reducible refine (?_ : (_ : List (List Value)) = _)); (with_reducible rfl)) | ((with_reducible refine (?_ : (_ : Int) ≠ 0)); (first | assumption | omega | (simp; done) | (simp only [ints_len] at *; omega) | (simp; omega))) | ((with_reducible refine (?_ : (_ : Int) ≤ _)); (first | assumption | omega | (simp; done) | (simp only [ints_len] at *; omega) | (simp; omega))) | ((with_reducible refine (?_ : (_ : Int) < _)); (first | assumption | omega | (simp; done) | (simp only [ints_len] at *; omega) | (simp; omega))) | ((with_reducible refine (?_ : (_ : Nat) ≤ _)); (first | omega | (simp only [List.length_cons, List.length_nil]; omega) | (simp [ints]; done) | (simp; omega))) | ((with_reducible refine (?_ : (_ : Nat) < _)); (first | omega | (simp only [List.length_cons, List.length_nil]; omega) | (simp [ints]; done) | (simp; omega))) | ((with_reducible refine (?_ : (_ : Nat) = _)); (first | (with_reducible rfl) | (simp; done) | (simp only [fr_len]) | (simp only [ints_len]) | omega | (simp [*]; done))) | (refine And.intro ?_ ?_) | (intro h; first | (exact Bool.noConfusion h) | ((simp only [decide_eq_true_eq, decide_eq_false_iff_not, beq_iff_eq, bne_iff_ne, ne_eq, beq_eq_false_iff_ne, bne_eq_false_iff_eq, Bool.not_eq_true', Bool.not_eq_false', Bool.not_eq_true, Bool.not_eq_false, Int.not_le, Int.not_lt, Bool.and_eq_true, Bool.or_eq_true, Bool.or_eq_false_iff, Bool.and_eq_false_iff] at h); (try (first | (exact Bool.noConfusion h) | (exact (h trivial).elim)))) | skip) | ((refine (?_ : ACall _ _ _ _ _ _ _)); first | ((apply acall (impl_areNumbers [n] (by simp))); (focus (repeat' (first | exact rfl | (refine And.intro ?_ ?_) | (simp only [ints_len]; done) | (simp; done) | omega))))) | ((with_reducible refine (?_ : chk _ _ = true)); kernel_rfl) | ((with_reducible refine (?_ : (_ : IntKind) = _)); (with_reducible rfl)) | ((with_reducible refine (?_ : eqC (C.pvw _ _ _) (C.pvw _ _ _))); exact rfl) | ((with_reducible refine (?_ : eqC (C.pv (Value.int IntKind.u64 _)) _)); exact rfl) | exact trivial)
  all_goals simp

theorem impl_nvalues (a b c : Int) (n : N6) : AFun Try.prog 35 [] [Nd n, Fo a b c] (Fo (fv a b c n.1.1 n.1.2) (fv a b c n.2.1.1 n.2.1.2) (fv a b c n.2.2.1 n.2.2.2)) [] [] := by
  refine afun_intro fn35 rfl rfl (by repeat' (first | exact trivial | (simp; done) | refine ⟨?_, ?_⟩)) ?_
  unfold ac35
  repeat' (first | ((with_reducible refine (?_ : (_ : Bool) = _)); (with_reducible rfl)) | ((with_reducible refine (?_ : (_ : Nat × Nat) = _)); (with_reducible rfl)) | (with_reducible refine leafRI ?_) | (with_reducible refine leafRB ?_) | (with_reducible refine leafI ?_) | (with_reducible refine leafB ?_) | ((with_reducible refine (?_ : (_ : Int) = _)); (with_reducible rfl)) | ((with_reducible refine (?_ : (_ : List (List Value)) = _)); (with_reducible rfl)) | ((with_reducible refine (?_ : (_ : Int) ≠ 0)); (first | assumption | omega | (simp; done) | (simp only [ints_len] at *; omega) | (simp; omega))) | ((with_reducible refine (?_ : (_ : Int) ≤ _)); (first | assumption | omega | (simp; done) | (simp only [ints_len] at *; omega) | (simp; omega))) | ((with_reducible refine (?_ : (_ : Int) < _)); (first | assumption | omega | (simp; done) | (simp only [ints_len] at *; omega) | (simp; omega))) | ((with_reducible refine (?_ : (_ : Nat) ≤ _)); (first | omega | (simp only [List.length_cons, List.length_nil]; omega) | (simp [ints]; done) | (simp; omega))) | ((with_reducible refine (?_ : (_ : Nat) < _)); (first | omega | (simp only [List.length_cons, List.length_nil]; omega) | (simp [ints]; done) | (simp; omega))) | ((with_reducible refine (?_ : (_ : Nat) = _)); (first | (with_reducible rfl) | (simp; done) | (simp only [fr_len]) | (simp only [ints_len]) | omega | (simp [*]; done))) | (refine And.intro ?_ ?_) | (intro h; first | (exact Bool.noConfusion h) | ((simp only [decide_eq_true_eq, decide_eq_false_iff_not, beq_iff_eq, bne_iff_ne, ne_eq, beq_eq_false_iff_ne, bne_eq_false_iff_eq, Bool.not_eq_true', Bool.not_eq_false', Bool.not_eq_true, Bool.not_eq_false, Int.not_le, Int.not_lt, Bool.and_eq_true, Bool.or_eq_true, Bool.or_eq_false_iff, Bool.and_eq_false_iff] at h); (try (first | (exact Bool.noConfusion h) | (exact (h trivial).elim)))) | skip) | ((refine (?_ : ACall _ _ _ _ _ _ _)); first | ((apply acall (impl_at _ _ _ _ _)); (focus (repeat' (first | exact rfl | (refine And.intro ?_ ?_) | (simp only [ints_len]; done) | (simp; done) | omega))))) | ((with_reducible refine (?_ : chk _ _ = true)); kernel_rfl) | ((with_reducible refine (?_ : (_ : IntKind) = _)); (with_reducible rfl)) | ((with_reducible refine (?_ : eqC (C.pvw _ _ _) (C.pvw _ _ _))); exact rfl) | ((with_reducible refine (?_ : eqC (C.pv (Value.int IntKind.u64 _)) _)); exact rfl) | exact trivial)

def nvG (a b c : Int) (n : N6) : Bool := (num a && num b && num c) && ndG n
abbrev P4 (x y z : Int) (b : Bool) : V := .tup [(false, [cI x]), (false, [cI y]), (false, [cI z]), (false, [cB b])]
def nvX (a b c : Int) (n : N6) : Int := if nvG a b c n then fv a b c n.1.1 n.1.2 else 0
def nvY (a b c : Int) (n : N6) : Int := if nvG a b c n then fv a b c n.2.1.1 n.2.1.2 else 0
def nvZ (a b c : Int) (n : N6) : Int := if nvG a b c n then fv a b c n.2.2.1 n.2.2.2 else 0
theorem impl_NodeValues (a b c n0 n1 n2 n3 n4 n5 : Int) : AFun Try.prog 14 [] [Fo a b c, Nd6 n0 n1 n2 n3 n4 n5] (P4 (nvX a b c ((n0, n1), (n2, n3), (n4, n5))) (nvY a b c ((n0, n1), (n2, n3), (n4, n5))) (nvZ a b c ((n0, n1), (n2, n3), (n4, n5))) (nvG a b c ((n0, n1), (n2, n3), (n4, n5)))) [] [] := by
  unfold nvX nvY nvZ nvG
  have hv := impl_nvalues a b c ((n0, n1), (n2, n3), (n4, n5))
  refine afun_intro fn14 rfl rfl (by repeat' (first | exact trivial | (simp; done) | refine ⟨?_, ?_⟩)) ?_
  unfold ac14
  repeat' (first | ((with_reducible refine (?_ : (_ : Bool) = _)); (with_reducible rfl)) | ((with_reducible refine (?_ : (_ : Nat × Nat) = _)); (with_reducible rfl)) | (with_reducible refine leafRI ?_) | (with_reducible refine leafRB ?_) | (with_reducible refine leafI ?_) | (with_reducible refine leafB ?_) | ((with_reducible refine (?_ : (_ : Int) = _)); (with_reducible rfl)) | ((with_reducible refine (?_ : (_ : List (List Value)) = _)); (with_reducible rfl)) | ((with_reducible refine (?_ : (_ : Int) ≠ 0)); (first | assumption | omega | (simp; done) | (simp only [ints_len] at *; omega) | (simp; omega))) | ((with_reducible refine (?_ : (_ : Int) ≤ _)); (first | assumption | omega | (simp; done) | (simp only [ints_len] at *; omega) | (simp; omega))) | ((with_reducible refine (?_ : (_ : Int) < _)); (first | assumption | omega | (simp; done) | (simp only [ints_len] at *; omega) | (simp; omega))) | ((with_reducible refine (?_ : (_ : Nat) ≤ _)); (first | omega | (simp only [List.length_cons, List.length_nil]; omega) | (simp [ints]; done) | (simp; omega))) | ((with_reducible refine (?_ : (_ : Nat) < _)); (first | omega | (simp only [List.length_cons, List.length_nil]; omega) | (simp [ints]; done) | (simp; omega))) | ((with_reducible refine (?_ : (_ : Nat) = _)); (first | (with_reducible rfl) | (simp; done) | (simp only [fr_len]) | (simp only [ints_len]) | omega | (simp [*]; done))) | (refine And.intro ?_ ?_) | (intro h; first | (exact Bool.noConfusion h) | (exact absurd h (by decide)) | ((simp only [decide_eq_true_eq, decide_eq_false_iff_not, beq_iff_eq, bne_iff_ne, ne_eq, beq_eq_false_iff_ne, bne_eq_false_iff_eq, Bool.not_eq_true', Bool.not_eq_false', Bool.not_eq_true, Bool.not_eq_false, Int.not_le, Int.not_lt, Bool.and_eq_true, Bool.or_eq_true, Bool.or_eq_false_iff, Bool.and_eq_false_iff] at h); (try (first | (exact Bool.noConfusion h) | (exact (h trivial).elim)))) | skip) | (first | (refine ex_nat (q := 0) (by decide +kernel) (by decide +kernel) ?_) | (refine ex_nat (q := 1) (by decide +kernel) (by decide +kernel) ?_) | (refine ex_nat (q := 2) (by decide +kernel) (by decide +kernel) ?_) | (refine ex_nat (q := 3) (by decide +kernel) (by decide +kernel) ?_)) | ((refine (?_ : ACall _ _ _ _ _ _ _)); first | ((apply acall (impl_IsForm _ _ _)); (focus (repeat' (first | exact rfl | (refine And.intro ?_ ?_) | (simp only [ints_len]; done) | (simp; done) | omega)))) | ((apply acall (impl_isNode _ _ _ _ _ _)); (focus (repeat' (first | exact rfl | (refine And.intro ?_ ?_) | (simp only [ints_len]; done) | (simp; done) | omega)))) | ((apply acall (hv)); (focus (repeat' (first | exact rfl | (refine And.intro ?_ ?_) | (simp only [ints_len]; done) | (simp; done) | omega))))) | ((with_reducible refine (?_ : chk _ _ = true)); kernel_rfl) | ((with_reducible refine (?_ : (_ : IntKind) = _)); (with_reducible rfl)) | ((with_reducible refine (?_ : eqC (C.pvw _ _ _) (C.pvw _ _ _))); exact rfl) | ((with_reducible refine (?_ : eqC (C.pv (Value.int IntKind.u64 _)) _)); exact rfl) | exact trivial)
  all_goals (clear hv; first | grind | simp_all)

theorem fo_bd {a b c : Int} {p : P2} (ha1 : -1000000 ≤ a) (ha2 : a ≤ 1000000) (hb1 : -1000000 ≤ b) (hb2 : b ≤ 1000000) (hc1 : -1000000 ≤ c) (hc2 : c ≤ 1000000) (hp : Nm2 p) :
    -3000000000000000000 ≤ fo a b c p ∧ fo a b c p ≤ 3000000000000000000 ∧ wrap64 (wrap64 (wrap64 (wrap64 (a * p.1) * p.1) + wrap64 (wrap64 (b * p.1) * p.2)) + wrap64 (wrap64 (c * p.2) * p.2)) = fo a b c p := by
  obtain ⟨x1, x2, y1, y2⟩ := hp
  have m1 := mul_bd (a := a) (b := p.1) (A := 1000000) (B := 1000000) ha1 ha2 x1 x2
  have m2 := mul_bd (a := a * p.1) (b := p.1) (A := 1000000000000) (B := 1000000) (by omega) (by omega) x1 x2
  have m3 := mul_bd (a := b) (b := p.1) (A := 1000000) (B := 1000000) hb1 hb2 x1 x2
  have m4 := mul_bd (a := b * p.1) (b := p.2) (A := 1000000000000) (B := 1000000) (by omega) (by omega) y1 y2
  have m5 := mul_bd (a := c) (b := p.2) (A := 1000000) (B := 1000000) hc1 hc2 y1 y2
  have m6 := mul_bd (a := c * p.2) (b := p.2) (A := 1000000000000) (B := 1000000) (by omega) (by omega) y1 y2
  unfold fo
  refine ⟨by omega, by omega, ?_⟩
  simp (disch := omega) only [wrap_small]

theorem fo_bdN {a b c : Int} {p : P2} (ha1 : -1000000 ≤ a) (ha2 : a ≤ 1000000) (hb1 : -1000000 ≤ b) (hb2 : b ≤ 1000000) (hc1 : -1000000 ≤ c) (hc2 : c ≤ 1000000) (hp : Nm2 p) : fv a b c p.1 p.2 = fo a b c p :=
  (fo_bd ha1 ha2 hb1 hb2 hc1 hc2 hp).2.2
/-- The values, without the machine. -/
theorem nv_fo {a b c : Int} {n : N6} (h : nvG a b c n = true) : nvX a b c n = fo a b c n.1 ∧ nvY a b c n = fo a b c n.2.1 ∧ nvZ a b c n = fo a b c n.2.2 := by
  rw [nvX, nvY, nvZ, if_pos h, if_pos h, if_pos h]
  simp only [nvG, Bool.and_eq_true, num_iff] at h
  obtain ⟨⟨⟨ha, hb⟩, hc⟩, hn⟩ := h
  have hn := ndG_iff.1 hn
  exact ⟨(fo_bdN ha.1 ha.2 hb.1 hb.2 hc.1 hc.2 hn.ru.nm), (fo_bdN ha.1 ha.2 hb.1 hb.2 hc.1 hc.2 hn.rv.nm), (fo_bdN ha.1 ha.2 hb.1 hb.2 hc.1 hc.2 hn.rw.nm)⟩

/-! the value of a new region -/
def fvS (a b c : Int) (n : N6) : Int := fo a b c n.1 + fo a b c n.2.1 + fo a b c n.2.2
theorem fvS_mk (a b c : Int) (p q r : P2) : fvS a b c (mkN p q r) = fo a b c p + fo a b c q + fo a b c r := by
  unfold mkN fvS
  split
  · split <;> dsimp only <;> omega
  · dsimp only; omega
theorem fvS_spl (a b c : Int) (n : N6) (i : Int) : fvS a b c (spl n i) = fvS a b c n := by
  unfold spl fvS
  split
  · rfl
  · split <;> dsimp only <;> omega
theorem para (a b c : Int) {n : N6} {i : Int} (h : snG n i = true) : fvS a b c (nstp n i) + fo a b c (spl n i).1 = 3 * (fvS a b c n - fo a b c (spl n i).1) := by
  simp only [snG, Bool.and_eq_true] at h
  obtain ⟨⟨t, ht, z, hz, h1, z', hz', h2⟩, _⟩ := stR_NR (spl_SG i (ndG_iff.1 h.1.1))
  have e : nstp n i = mkN (spl n i).2.1 (spl n i).2.2 (stR (spl n i)) := rfl
  rw [e, fvS_mk, ← fvS_spl a b c n i, fvS]
  generalize (spl n i).2.1 = p at *
  generalize (spl n i).2.2 = q at *
  rw [h1, h2]
  unfold fo
  dsimp only
  rcases ht with rfl | rfl <;> rcases hz with rfl | rfl <;> rcases hz' with rfl | rfl <;> grind

theorem snG_i {n : N6} {i : Int} (h : snG n i = true) : 1 ≤ i ∧ i ≤ 3 := by
  simp only [snG, Bool.and_eq_true, decide_eq_true_eq] at h
  exact h.1.2
def foundB (n : N6) (m : N6) (s : Bool × Int) : Prop := 1 ≤ s.2 ∧ s.2 ≤ 4 ∧ ∀ j : Int, 1 ≤ j → j < s.2 → snG m j = true → nstp m j = n → s.1 = true

/-! all is forgotten at the loop but what is named -/
theorem hav_all : ∀ (T : List V) (n : Nat), T.length = n → hav T (List.replicate n true) = List.replicate n (.c .any)
  | [], n, h => by subst h; rfl
  | x :: T, n, h => by subst h; simp only [List.length_cons, List.replicate_succ, hav]; rw [hav_all T T.length rfl]
theorem keepL_all : ∀ (T : List V) (n : Nat), T.length = n → keepL T (List.replicate n true) = List.replicate n (.c .any)
  | [], n, h => by subst h; rfl
  | x :: T, n, h => by subst h; simp only [List.length_cons, List.replicate_succ, keepL]; rw [keepL_all T T.length rfl]
theorem loop_ruleA {n : Nat} {nl : Nat} {wf : List Bool} {body : List V → ML → (X → List V → ML → Prop) → Prop} {T0 : List V} {m0 : ML} {k : X → List V → ML → Prop} (hn : T0.length = n) {σ : Type} (sp : σ → List (Nat × V)) (mem : σ → ML) (ok : σ → Prop) (μ : σ → Nat) (s0 : σ) (h0 : ok s0)
    (hsp : eqsK T0 (sp s0)) (hmem : memsEq m0 (mem s0)) (hnm : ∀ s, (setsK (List.replicate n (.c .any)) (sp s) fun T => nameT (mem s) T = true) ∧ nameM (mem s) (mem s) = true) (hl : ∀ s i, i < nl → (sem (mem s) (0, i)).isSome = true)
    (round : ∀ s, ok s → setsK (List.replicate n (.c .any)) (sp s) fun T => body T (mem s) fun e T1 m1 => match e with
      | .normal => ∃ s', ok s' ∧ μ s' < μ s ∧ ∃ o, swapK o T1 m1 fun T1 m1 => keepL T1 (List.replicate n true) = List.replicate n (.c .any) ∧ eqsK T1 (sp s') ∧ memsEq m1 (mem s')
      | .exit id => k (.exit id) T1 m1
      | .ret => k .ret T1 m1) : ALoop nl wf body T0 m0 k := by
  refine ⟨0, ⟨List.replicate n true, σ, sp, mem, ok, μ, ⟨s0, h0, hsp, hmem⟩, fun s => ⟨?_, (hnm s).2, hl s⟩, fun s hs => ?_⟩⟩
  · rw [hav_all T0 n hn]
    exact setsK_ex (hnm s).1
  · rw [hav_all T0 n hn, keepL_all T0 n hn]
    exact setsK_ex (round s hs)
def tlA : AC → AC
  | .seq _ b => b
  | a => a
def hdA : AC → AC
  | .seq a _ => a
  | a => a
def tlN : Nat → AC → AC
  | 0, a => a
  | n + 1, a => tlN n (tlA a)
/-- The loop of the law on paths, and what follows. -/
def blkP : AC := tlA (hdA (tlN 13 ac3))
def rstP : AC := tlN 14 ac3
def kP0 : X → List V → ML → Prop := fun e T m => match e with
      | .exit _ => False
      | _ => outK [] [.tmp 4] (fun r bs => eqRes r (Bo true) ∧ eqBs bs ([] ++ [])) T m
def kP : X → List V → ML → Prop := fun e T' m' => match e with
    | .normal => wpA Try.prog 0 rstP T' m' kP0
    | .exit id => kP0 (.exit id) T' m'
    | .ret => kP0 .ret T' m'

end Go.Proofs.Ytemlkfcbcphenaa

/-! The law on paths: its loop, and what follows. -/
namespace Go.Proofs.Ytemlkfcbcphenaa
open Go.RowKit
set_option linter.unusedSimpArgs false
set_option linter.unusedVariables false
set_option maxRecDepth 100000
set_option maxHeartbeats 4000000

theorem paths_loop (v : Value) (l : List Int) (B : BysOk l) (n m : N6) (i : Int) (hs : snG n i = true) (em : m = nstp n i) (T0 : List V) (M0 : ML) (hn : T0.length = 234)
    (h1 : eqsK T0 [(0, By v l), (13, .c (.ptr (13, 0) 0)), (14, I i), (15, .c (.ptr (15, 0) 0)), (19, Bo false), (20, I 1)])
    (h2 : memsEq M0 [((13, 0), .bx [cI n.1.1, cI n.1.2, cI n.2.1.1, cI n.2.1.2, cI n.2.2.1, cI n.2.2.2]), ((15, 0), .bx [cI m.1.1, cI m.1.2, cI m.2.1.1, cI m.2.1.2, cI m.2.2.1, cI m.2.2.2])]) : wpA Try.prog 0 blkP T0 M0 kP := by
  obtain ⟨a, b, c, n', ha, hbb, hcc, d3⟩ := DrawNodeValues_ex v l B
  have hi := snG_i hs
  have hm := snG_NG hs
  have hb := step_back hs
  rw [← em] at hm hb
  have hpar := fun a b c => para a b c hs
  rw [← em] at hpar
  have hng : NG n := by simp only [snG, Bool.and_eq_true] at hs; exact ndG_iff.1 hs.1.1
  obtain ⟨⟨n0, n1⟩, ⟨n2, n3⟩, ⟨n4, n5⟩⟩ := n
  obtain ⟨⟨m0, m1⟩, ⟨m2, m3⟩, ⟨m4, m5⟩⟩ := m
  dsimp only at h2
  refine loop_ruleA hn (σ := Bool × Int) (fun s => [(0, By v l), (13, .c (.ptr (13, 0) 0)), (14, I i), (15, .c (.ptr (15, 0) 0)), (19, Bo s.1), (20, I s.2)]) (fun _ => [((13, 0), .bx [cI n0, cI n1, cI n2, cI n3, cI n4, cI n5]), ((15, 0), .bx [cI m0, cI m1, cI m2, cI m3, cI m4, cI m5])]) (foundB ((n0, n1), (n2, n3), (n4, n5)) ((m0, m1), (m2, m3), (m4, m5))) (fun s => (4 - s.2).toNat) (false, 1) ?_ h1 h2 (fun s => ⟨rfl, rfl⟩) (fun s i h => absurd h (Nat.not_lt_zero i)) ?_
  · exact ⟨by dsimp only; omega, by dsimp only; omega, fun j h1 h2 => by dsimp only at h2; omega⟩
  clear h1 h2 hn
  rintro ⟨bk, j⟩ ⟨g1, g2, g3⟩
  dsimp only at g1 g2 g3 ⊢
  have w1 : wrap64 (j + 1) = j + 1 := wrap_small (by omega) (by omega)
  have cJ := impl_StepNode m0 m1 m2 m3 m4 m5 j
  obtain ⟨jb, hjb⟩ : ∃ b, snG ((m0, m1), (m2, m3), (m4, m5)) j = b := ⟨_, rfl⟩
  obtain ⟨jv, hjv⟩ : ∃ b, snV ((m0, m1), (m2, m3), (m4, m5)) j = b := ⟨_, rfl⟩
  rw [hjb, hjv] at cJ
  have hjn : jb = true → nstp ((m0, m1), (m2, m3), (m4, m5)) j = jv := fun h => by rw [← hjv, snV, if_pos (hjb.trans h)]
  clear hjv
  obtain ⟨⟨j0, j1⟩, ⟨j2, j3⟩, ⟨j4, j5⟩⟩ := jv
  have hfin : 4 ≤ j → bk = true := fun h => by
    obtain ⟨q, q1, q2, q3, q4⟩ := hb
    exact g3 q q1 (by omega) q3 q4
  have fd : ∀ b : Bool, (bk = true → b = true) → (jb = true → ((j0, j1), (j2, j3), (j4, j5)) = ((n0, n1), (n2, n3), (n4, n5)) → b = true) → j ≤ 3 → foundB ((n0, n1), (n2, n3), (n4, n5)) ((m0, m1), (m2, m3), (m4, m5)) (b, j + 1) := fun b h1 h2 h3 => by
    refine ⟨by dsimp only; omega, by dsimp only; omega, fun q q1 q2 q3 q4 => ?_⟩
    dsimp only at q2 ⊢
    by_cases e : q = j
    · subst e
      rw [hjb] at q3
      exact h2 q3 ((hjn q3).symm.trans q4)
    · exact h1 (g3 q q1 (by omega) q3 q4)
  clear g3 hb
  repeat' (first | ((with_reducible refine (?_ : (_ : Bool) = _)); (with_reducible rfl)) | ((with_reducible refine (?_ : (_ : Nat × Nat) = _)); (with_reducible rfl)) | (with_reducible refine leafRI ?_) | (with_reducible refine leafRB ?_) | (with_reducible refine leafI ?_) | (with_reducible refine leafB ?_) | ((with_reducible refine (?_ : (_ : Int) = _)); (with_reducible rfl)) | ((with_reducible refine (?_ : (_ : List (List Value)) = _)); (with_reducible rfl)) | ((with_reducible refine (?_ : (_ : Int) ≠ 0)); (first | assumption | omega | (simp; done) | (simp only [ints_len] at *; omega) | (simp; omega))) | ((with_reducible refine (?_ : (_ : Int) ≤ _)); (first | assumption | omega | (simp; done) | (simp only [ints_len] at *; omega) | (simp; omega))) | ((with_reducible refine (?_ : (_ : Int) < _)); (first | assumption | omega | (simp; done) | (simp only [ints_len] at *; omega) | (simp; omega))) | ((with_reducible refine (?_ : (_ : Nat) ≤ _)); (first | omega | (simp only [List.length_cons, List.length_nil]; omega) | (simp [ints]; done) | (simp; omega))) | ((with_reducible refine (?_ : (_ : Nat) < _)); (first | omega | (simp only [List.length_cons, List.length_nil]; omega) | (simp [ints]; done) | (simp; omega))) | ((with_reducible refine (?_ : (_ : Nat) = _)); (first | (with_reducible rfl) | (simp; done) | (simp only [fr_len]) | (simp only [ints_len]) | omega | (simp [*]; done))) | (refine And.intro ?_ ?_) | (intro h; first | (exact Bool.noConfusion h) | ((simp only [decide_eq_true_eq, decide_eq_false_iff_not, beq_iff_eq, bne_iff_ne, ne_eq, beq_eq_false_iff_ne, bne_eq_false_iff_eq, Bool.not_eq_true', Bool.not_eq_false', Bool.not_eq_true, Bool.not_eq_false, Int.not_le, Int.not_lt, Bool.and_eq_true, Bool.or_eq_true, Bool.or_eq_false_iff, Bool.and_eq_false_iff] at h); (try (first | (exact Bool.noConfusion h) | (exact (h trivial).elim)))) | skip) | ((refine (?_ : ACall _ _ _ _ _ _ _)); first | ((apply acall (cJ)); (focus (repeat' (first | exact rfl | (refine And.intro ?_ ?_) | (simp only [ints_len]; done) | (simp; done) | omega))))) | ((with_reducible refine (?_ : chk _ _ = true)); kernel_rfl) | ((with_reducible refine (?_ : (_ : IntKind) = _)); (with_reducible rfl)) | ((with_reducible refine (?_ : eqC (C.pvw _ _ _) (C.pvw _ _ _))); exact rfl) | ((with_reducible refine (?_ : eqC (C.pv (Value.int IntKind.u64 _)) _)); exact rfl) | exact trivial)
  · refine ⟨(_, _), ?_, ?_, none, And.intro rfl (And.intro (by repeat' (first | exact trivial | exact rfl | (refine And.intro ?_ ?_))) (by repeat' (first | exact trivial | exact rfl | (refine And.intro ?_ ?_))))⟩
    · rw [w1]
      exact fd _ (fun _ => by first | rfl | assumption | simp_all) (fun _ _ => by first | rfl | assumption | simp_all) (by omega)
    · dsimp only
      rw [w1]; omega
  · refine ⟨(_, _), ?_, ?_, none, And.intro rfl (And.intro (by repeat' (first | exact trivial | exact rfl | (refine And.intro ?_ ?_))) (by repeat' (first | exact trivial | exact rfl | (refine And.intro ?_ ?_))))⟩
    · rw [w1]
      refine fd _ (fun h => by simp_all) (fun _ he => ?_) (by omega)
      simp only [Prod.mk.injEq] at he
      obtain ⟨⟨rfl, rfl⟩, ⟨rfl, rfl⟩, rfl, rfl⟩ := he
      simp
    · dsimp only
      rw [w1]; omega
  · refine ⟨(_, _), ?_, ?_, none, And.intro rfl (And.intro (by repeat' (first | exact trivial | exact rfl | (refine And.intro ?_ ?_))) (by repeat' (first | exact trivial | exact rfl | (refine And.intro ?_ ?_))))⟩
    · rw [w1]
      exact fd _ (fun h => by simp_all) (fun h _ => by simp_all) (by omega)
    · dsimp only
      rw [w1]; omega
  have hbk := hfin (by omega)
  subst hbk
  clear hfin fd hjn hjb cJ
  have eG : nvG a b c ((m0, m1), (m2, m3), (m4, m5)) = nvG a b c ((n0, n1), (n2, n3), (n4, n5)) := by
    simp only [nvG, ndG_iff.2 hm, ndG_iff.2 hng]
  have key : nvG a b c ((n0, n1), (n2, n3), (n4, n5)) = true → fvS a b c ((n0, n1), (n2, n3), (n4, n5)) = nvX a b c ((n0, n1), (n2, n3), (n4, n5)) + nvY a b c ((n0, n1), (n2, n3), (n4, n5)) + nvZ a b c ((n0, n1), (n2, n3), (n4, n5)) ∧
      fvS a b c ((m0, m1), (m2, m3), (m4, m5)) = nvX a b c ((m0, m1), (m2, m3), (m4, m5)) + nvY a b c ((m0, m1), (m2, m3), (m4, m5)) + nvZ a b c ((m0, m1), (m2, m3), (m4, m5)) ∧
      (i = 1 → fo a b c (spl ((n0, n1), (n2, n3), (n4, n5)) i).1 = nvX a b c ((n0, n1), (n2, n3), (n4, n5))) ∧ (i = 2 → fo a b c (spl ((n0, n1), (n2, n3), (n4, n5)) i).1 = nvY a b c ((n0, n1), (n2, n3), (n4, n5))) ∧ (i = 3 → fo a b c (spl ((n0, n1), (n2, n3), (n4, n5)) i).1 = nvZ a b c ((n0, n1), (n2, n3), (n4, n5))) := fun h => by
    obtain ⟨x1, x2, x3⟩ := nv_fo h
    obtain ⟨y1, y2, y3⟩ := nv_fo (eG.trans h)
    refine ⟨by rw [x1, x2, x3]; rfl, by rw [y1, y2, y3]; rfl, fun e => ?_, fun e => ?_, fun e => ?_⟩ <;> subst e
    · exact x1.symm
    · exact x2.symm
    · exact x3.symm
  have hp := hpar a b c
  clear hpar em hs hng hm
  generalize fvS a b c ((n0, n1), (n2, n3), (n4, n5)) = sn at *
  generalize fvS a b c ((m0, m1), (m2, m3), (m4, m5)) = sm at *
  generalize fo a b c (spl ((n0, n1), (n2, n3), (n4, n5)) i).1 = so at *
  have cN := impl_NodeValues a b c
  have hii : i = 1 ∨ i = 2 ∨ i = 3 := by omega
  have w10 : wrap64 (1 - 1) = 0 := by decide +kernel
  have w21 : wrap64 (2 - 1) = 1 := by decide +kernel
  have w32 : wrap64 (3 - 1) = 2 := by decide +kernel
  rcases hii with rfl | rfl | rfl
  · repeat' (first | ((with_reducible refine (?_ : (_ : Bool) = _)); (with_reducible rfl)) | ((with_reducible refine (?_ : (_ : Nat × Nat) = _)); (with_reducible rfl)) | (with_reducible refine leafRI ?_) | (with_reducible refine leafRB ?_) | (with_reducible refine leafI ?_) | (with_reducible refine leafB ?_) | ((with_reducible refine (?_ : (_ : Int) = _)); (with_reducible rfl)) | ((with_reducible refine (?_ : (_ : List (List Value)) = _)); (with_reducible rfl)) | ((with_reducible refine (?_ : (_ : Int) ≠ 0)); (first | assumption | omega | (simp; done) | (simp only [ints_len] at *; omega) | (simp; omega))) | ((with_reducible refine (?_ : (_ : Int) ≤ _)); (first | assumption | omega | (simp; done) | (simp only [ints_len] at *; omega) | (simp; omega))) | ((with_reducible refine (?_ : (_ : Int) < _)); (first | assumption | omega | (simp; done) | (simp only [ints_len] at *; omega) | (simp; omega))) | ((with_reducible refine (?_ : (_ : Nat) ≤ _)); (first | omega | (simp only [List.length_cons, List.length_nil]; omega) | (simp [ints]; done) | (simp; omega))) | ((with_reducible refine (?_ : (_ : Nat) < _)); (first | omega | (simp only [List.length_cons, List.length_nil]; omega) | (simp [ints]; done) | (simp; omega))) | ((with_reducible refine (?_ : (_ : Nat) = _)); (first | (with_reducible rfl) | (simp; done) | (simp only [fr_len]) | (simp only [ints_len]) | omega | (simp [*]; done))) | (refine And.intro ?_ ?_) | (intro h; first | (exact Bool.noConfusion h) | ((simp only [decide_eq_true_eq, decide_eq_false_iff_not, beq_iff_eq, bne_iff_ne, ne_eq, beq_eq_false_iff_ne, bne_eq_false_iff_eq, Bool.not_eq_true', Bool.not_eq_false', Bool.not_eq_true, Bool.not_eq_false, Int.not_le, Int.not_lt, Bool.and_eq_true, Bool.or_eq_true, Bool.or_eq_false_iff, Bool.and_eq_false_iff] at h); (try (first | (exact Bool.noConfusion h) | (exact (h trivial).elim)))) | skip) | ((refine (?_ : ACall _ _ _ _ _ _ _)); first | ((apply acall (d3)); (focus (repeat' (first | exact rfl | (refine And.intro ?_ ?_) | (simp only [ints_len]; done) | (simp; done) | omega)))) | ((apply acall (cN _ _ _ _ _ _)); (focus (repeat' (first | exact rfl | (refine And.intro ?_ ?_) | (simp only [ints_len]; done) | (simp; done) | omega)))) | ((apply acall (impl_IsNumber _)); (focus (repeat' (first | exact rfl | (refine And.intro ?_ ?_) | (simp only [ints_len]; done) | (simp; done) | omega))))) | ((with_reducible refine (?_ : chk _ _ = true)); kernel_rfl) | ((with_reducible refine (?_ : (_ : IntKind) = _)); (with_reducible rfl)) | ((with_reducible refine (?_ : eqC (C.pvw _ _ _) (C.pvw _ _ _))); exact rfl) | ((with_reducible refine (?_ : eqC (C.pv (Value.int IntKind.u64 _)) _)); exact rfl) | exact trivial)
    · exact absurd eG.symm ‹¬ _ = _›
    · rw [w10]; decide
    · rw [w10]
      repeat' (first | ((with_reducible refine (?_ : (_ : Bool) = _)); (with_reducible rfl)) | ((with_reducible refine (?_ : (_ : Nat × Nat) = _)); (with_reducible rfl)) | (with_reducible refine leafRI ?_) | (with_reducible refine leafRB ?_) | (with_reducible refine leafI ?_) | (with_reducible refine leafB ?_) | ((with_reducible refine (?_ : (_ : Int) = _)); (with_reducible rfl)) | ((with_reducible refine (?_ : (_ : List (List Value)) = _)); (with_reducible rfl)) | ((with_reducible refine (?_ : (_ : Int) ≠ 0)); (first | assumption | omega | (simp; done) | (simp only [ints_len] at *; omega) | (simp; omega))) | ((with_reducible refine (?_ : (_ : Int) ≤ _)); (first | assumption | omega | (simp; done) | (simp only [ints_len] at *; omega) | (simp; omega))) | ((with_reducible refine (?_ : (_ : Int) < _)); (first | assumption | omega | (simp; done) | (simp only [ints_len] at *; omega) | (simp; omega))) | ((with_reducible refine (?_ : (_ : Nat) ≤ _)); (first | omega | (simp only [List.length_cons, List.length_nil]; omega) | (simp [ints]; done) | (simp; omega))) | ((with_reducible refine (?_ : (_ : Nat) < _)); (first | omega | (simp only [List.length_cons, List.length_nil]; omega) | (simp [ints]; done) | (simp; omega))) | ((with_reducible refine (?_ : (_ : Nat) = _)); (first | (with_reducible rfl) | (simp; done) | (simp only [fr_len]) | (simp only [ints_len]) | omega | (simp [*]; done))) | (refine And.intro ?_ ?_) | (intro h; first | (exact Bool.noConfusion h) | ((simp only [decide_eq_true_eq, decide_eq_false_iff_not, beq_iff_eq, bne_iff_ne, ne_eq, beq_eq_false_iff_ne, bne_eq_false_iff_eq, Bool.not_eq_true', Bool.not_eq_false', Bool.not_eq_true, Bool.not_eq_false, Int.not_le, Int.not_lt, Bool.and_eq_true, Bool.or_eq_true, Bool.or_eq_false_iff, Bool.and_eq_false_iff] at h); (try (first | (exact Bool.noConfusion h) | (exact (h trivial).elim)))) | skip) | ((with_reducible refine (?_ : chk _ _ = true)); kernel_rfl) | ((with_reducible refine (?_ : (_ : IntKind) = _)); (with_reducible rfl)) | ((with_reducible refine (?_ : eqC (C.pvw _ _ _) (C.pvw _ _ _))); exact rfl) | ((with_reducible refine (?_ : eqC (C.pv (Value.int IntKind.u64 _)) _)); exact rfl) | exact trivial | (refine Exists.intro _ (And.intro rfl ?_)))
      obtain ⟨k1, k2, k3, k4, k5⟩ := key ‹_›
      simp only [forall_const, reduceCtorEq, false_implies, Int.reduceEq] at k3 k4 k5
      rw [beq_iff_eq]
      simp only [W_addl, W_addr, W_subl, W_mull, W_mulr]
      congr 1
      omega
  · repeat' (first | ((with_reducible refine (?_ : (_ : Bool) = _)); (with_reducible rfl)) | ((with_reducible refine (?_ : (_ : Nat × Nat) = _)); (with_reducible rfl)) | (with_reducible refine leafRI ?_) | (with_reducible refine leafRB ?_) | (with_reducible refine leafI ?_) | (with_reducible refine leafB ?_) | ((with_reducible refine (?_ : (_ : Int) = _)); (with_reducible rfl)) | ((with_reducible refine (?_ : (_ : List (List Value)) = _)); (with_reducible rfl)) | ((with_reducible refine (?_ : (_ : Int) ≠ 0)); (first | assumption | omega | (simp; done) | (simp only [ints_len] at *; omega) | (simp; omega))) | ((with_reducible refine (?_ : (_ : Int) ≤ _)); (first | assumption | omega | (simp; done) | (simp only [ints_len] at *; omega) | (simp; omega))) | ((with_reducible refine (?_ : (_ : Int) < _)); (first | assumption | omega | (simp; done) | (simp only [ints_len] at *; omega) | (simp; omega))) | ((with_reducible refine (?_ : (_ : Nat) ≤ _)); (first | omega | (simp only [List.length_cons, List.length_nil]; omega) | (simp [ints]; done) | (simp; omega))) | ((with_reducible refine (?_ : (_ : Nat) < _)); (first | omega | (simp only [List.length_cons, List.length_nil]; omega) | (simp [ints]; done) | (simp; omega))) | ((with_reducible refine (?_ : (_ : Nat) = _)); (first | (with_reducible rfl) | (simp; done) | (simp only [fr_len]) | (simp only [ints_len]) | omega | (simp [*]; done))) | (refine And.intro ?_ ?_) | (intro h; first | (exact Bool.noConfusion h) | ((simp only [decide_eq_true_eq, decide_eq_false_iff_not, beq_iff_eq, bne_iff_ne, ne_eq, beq_eq_false_iff_ne, bne_eq_false_iff_eq, Bool.not_eq_true', Bool.not_eq_false', Bool.not_eq_true, Bool.not_eq_false, Int.not_le, Int.not_lt, Bool.and_eq_true, Bool.or_eq_true, Bool.or_eq_false_iff, Bool.and_eq_false_iff] at h); (try (first | (exact Bool.noConfusion h) | (exact (h trivial).elim)))) | skip) | ((refine (?_ : ACall _ _ _ _ _ _ _)); first | ((apply acall (d3)); (focus (repeat' (first | exact rfl | (refine And.intro ?_ ?_) | (simp only [ints_len]; done) | (simp; done) | omega)))) | ((apply acall (cN _ _ _ _ _ _)); (focus (repeat' (first | exact rfl | (refine And.intro ?_ ?_) | (simp only [ints_len]; done) | (simp; done) | omega)))) | ((apply acall (impl_IsNumber _)); (focus (repeat' (first | exact rfl | (refine And.intro ?_ ?_) | (simp only [ints_len]; done) | (simp; done) | omega))))) | ((with_reducible refine (?_ : chk _ _ = true)); kernel_rfl) | ((with_reducible refine (?_ : (_ : IntKind) = _)); (with_reducible rfl)) | ((with_reducible refine (?_ : eqC (C.pvw _ _ _) (C.pvw _ _ _))); exact rfl) | ((with_reducible refine (?_ : eqC (C.pv (Value.int IntKind.u64 _)) _)); exact rfl) | exact trivial)
    · exact absurd eG.symm ‹¬ _ = _›
    · rw [w21]; decide
    · rw [w21]
      repeat' (first | ((with_reducible refine (?_ : (_ : Bool) = _)); (with_reducible rfl)) | ((with_reducible refine (?_ : (_ : Nat × Nat) = _)); (with_reducible rfl)) | (with_reducible refine leafRI ?_) | (with_reducible refine leafRB ?_) | (with_reducible refine leafI ?_) | (with_reducible refine leafB ?_) | ((with_reducible refine (?_ : (_ : Int) = _)); (with_reducible rfl)) | ((with_reducible refine (?_ : (_ : List (List Value)) = _)); (with_reducible rfl)) | ((with_reducible refine (?_ : (_ : Int) ≠ 0)); (first | assumption | omega | (simp; done) | (simp only [ints_len] at *; omega) | (simp; omega))) | ((with_reducible refine (?_ : (_ : Int) ≤ _)); (first | assumption | omega | (simp; done) | (simp only [ints_len] at *; omega) | (simp; omega))) | ((with_reducible refine (?_ : (_ : Int) < _)); (first | assumption | omega | (simp; done) | (simp only [ints_len] at *; omega) | (simp; omega))) | ((with_reducible refine (?_ : (_ : Nat) ≤ _)); (first | omega | (simp only [List.length_cons, List.length_nil]; omega) | (simp [ints]; done) | (simp; omega))) | ((with_reducible refine (?_ : (_ : Nat) < _)); (first | omega | (simp only [List.length_cons, List.length_nil]; omega) | (simp [ints]; done) | (simp; omega))) | ((with_reducible refine (?_ : (_ : Nat) = _)); (first | (with_reducible rfl) | (simp; done) | (simp only [fr_len]) | (simp only [ints_len]) | omega | (simp [*]; done))) | (refine And.intro ?_ ?_) | (intro h; first | (exact Bool.noConfusion h) | ((simp only [decide_eq_true_eq, decide_eq_false_iff_not, beq_iff_eq, bne_iff_ne, ne_eq, beq_eq_false_iff_ne, bne_eq_false_iff_eq, Bool.not_eq_true', Bool.not_eq_false', Bool.not_eq_true, Bool.not_eq_false, Int.not_le, Int.not_lt, Bool.and_eq_true, Bool.or_eq_true, Bool.or_eq_false_iff, Bool.and_eq_false_iff] at h); (try (first | (exact Bool.noConfusion h) | (exact (h trivial).elim)))) | skip) | ((with_reducible refine (?_ : chk _ _ = true)); kernel_rfl) | ((with_reducible refine (?_ : (_ : IntKind) = _)); (with_reducible rfl)) | ((with_reducible refine (?_ : eqC (C.pvw _ _ _) (C.pvw _ _ _))); exact rfl) | ((with_reducible refine (?_ : eqC (C.pv (Value.int IntKind.u64 _)) _)); exact rfl) | exact trivial | (refine Exists.intro _ (And.intro rfl ?_)))
      obtain ⟨k1, k2, k3, k4, k5⟩ := key ‹_›
      simp only [forall_const, reduceCtorEq, false_implies, Int.reduceEq] at k3 k4 k5
      rw [beq_iff_eq]
      simp only [W_addl, W_addr, W_subl, W_mull, W_mulr]
      congr 1
      omega
  · repeat' (first | ((with_reducible refine (?_ : (_ : Bool) = _)); (with_reducible rfl)) | ((with_reducible refine (?_ : (_ : Nat × Nat) = _)); (with_reducible rfl)) | (with_reducible refine leafRI ?_) | (with_reducible refine leafRB ?_) | (with_reducible refine leafI ?_) | (with_reducible refine leafB ?_) | ((with_reducible refine (?_ : (_ : Int) = _)); (with_reducible rfl)) | ((with_reducible refine (?_ : (_ : List (List Value)) = _)); (with_reducible rfl)) | ((with_reducible refine (?_ : (_ : Int) ≠ 0)); (first | assumption | omega | (simp; done) | (simp only [ints_len] at *; omega) | (simp; omega))) | ((with_reducible refine (?_ : (_ : Int) ≤ _)); (first | assumption | omega | (simp; done) | (simp only [ints_len] at *; omega) | (simp; omega))) | ((with_reducible refine (?_ : (_ : Int) < _)); (first | assumption | omega | (simp; done) | (simp only [ints_len] at *; omega) | (simp; omega))) | ((with_reducible refine (?_ : (_ : Nat) ≤ _)); (first | omega | (simp only [List.length_cons, List.length_nil]; omega) | (simp [ints]; done) | (simp; omega))) | ((with_reducible refine (?_ : (_ : Nat) < _)); (first | omega | (simp only [List.length_cons, List.length_nil]; omega) | (simp [ints]; done) | (simp; omega))) | ((with_reducible refine (?_ : (_ : Nat) = _)); (first | (with_reducible rfl) | (simp; done) | (simp only [fr_len]) | (simp only [ints_len]) | omega | (simp [*]; done))) | (refine And.intro ?_ ?_) | (intro h; first | (exact Bool.noConfusion h) | ((simp only [decide_eq_true_eq, decide_eq_false_iff_not, beq_iff_eq, bne_iff_ne, ne_eq, beq_eq_false_iff_ne, bne_eq_false_iff_eq, Bool.not_eq_true', Bool.not_eq_false', Bool.not_eq_true, Bool.not_eq_false, Int.not_le, Int.not_lt, Bool.and_eq_true, Bool.or_eq_true, Bool.or_eq_false_iff, Bool.and_eq_false_iff] at h); (try (first | (exact Bool.noConfusion h) | (exact (h trivial).elim)))) | skip) | ((refine (?_ : ACall _ _ _ _ _ _ _)); first | ((apply acall (d3)); (focus (repeat' (first | exact rfl | (refine And.intro ?_ ?_) | (simp only [ints_len]; done) | (simp; done) | omega)))) | ((apply acall (cN _ _ _ _ _ _)); (focus (repeat' (first | exact rfl | (refine And.intro ?_ ?_) | (simp only [ints_len]; done) | (simp; done) | omega)))) | ((apply acall (impl_IsNumber _)); (focus (repeat' (first | exact rfl | (refine And.intro ?_ ?_) | (simp only [ints_len]; done) | (simp; done) | omega))))) | ((with_reducible refine (?_ : chk _ _ = true)); kernel_rfl) | ((with_reducible refine (?_ : (_ : IntKind) = _)); (with_reducible rfl)) | ((with_reducible refine (?_ : eqC (C.pvw _ _ _) (C.pvw _ _ _))); exact rfl) | ((with_reducible refine (?_ : eqC (C.pv (Value.int IntKind.u64 _)) _)); exact rfl) | exact trivial)
    · exact absurd eG.symm ‹¬ _ = _›
    · rw [w32]; decide
    · rw [w32]
      repeat' (first | ((with_reducible refine (?_ : (_ : Bool) = _)); (with_reducible rfl)) | ((with_reducible refine (?_ : (_ : Nat × Nat) = _)); (with_reducible rfl)) | (with_reducible refine leafRI ?_) | (with_reducible refine leafRB ?_) | (with_reducible refine leafI ?_) | (with_reducible refine leafB ?_) | ((with_reducible refine (?_ : (_ : Int) = _)); (with_reducible rfl)) | ((with_reducible refine (?_ : (_ : List (List Value)) = _)); (with_reducible rfl)) | ((with_reducible refine (?_ : (_ : Int) ≠ 0)); (first | assumption | omega | (simp; done) | (simp only [ints_len] at *; omega) | (simp; omega))) | ((with_reducible refine (?_ : (_ : Int) ≤ _)); (first | assumption | omega | (simp; done) | (simp only [ints_len] at *; omega) | (simp; omega))) | ((with_reducible refine (?_ : (_ : Int) < _)); (first | assumption | omega | (simp; done) | (simp only [ints_len] at *; omega) | (simp; omega))) | ((with_reducible refine (?_ : (_ : Nat) ≤ _)); (first | omega | (simp only [List.length_cons, List.length_nil]; omega) | (simp [ints]; done) | (simp; omega))) | ((with_reducible refine (?_ : (_ : Nat) < _)); (first | omega | (simp only [List.length_cons, List.length_nil]; omega) | (simp [ints]; done) | (simp; omega))) | ((with_reducible refine (?_ : (_ : Nat) = _)); (first | (with_reducible rfl) | (simp; done) | (simp only [fr_len]) | (simp only [ints_len]) | omega | (simp [*]; done))) | (refine And.intro ?_ ?_) | (intro h; first | (exact Bool.noConfusion h) | ((simp only [decide_eq_true_eq, decide_eq_false_iff_not, beq_iff_eq, bne_iff_ne, ne_eq, beq_eq_false_iff_ne, bne_eq_false_iff_eq, Bool.not_eq_true', Bool.not_eq_false', Bool.not_eq_true, Bool.not_eq_false, Int.not_le, Int.not_lt, Bool.and_eq_true, Bool.or_eq_true, Bool.or_eq_false_iff, Bool.and_eq_false_iff] at h); (try (first | (exact Bool.noConfusion h) | (exact (h trivial).elim)))) | skip) | ((with_reducible refine (?_ : chk _ _ = true)); kernel_rfl) | ((with_reducible refine (?_ : (_ : IntKind) = _)); (with_reducible rfl)) | ((with_reducible refine (?_ : eqC (C.pvw _ _ _) (C.pvw _ _ _))); exact rfl) | ((with_reducible refine (?_ : eqC (C.pv (Value.int IntKind.u64 _)) _)); exact rfl) | exact trivial | (refine Exists.intro _ (And.intro rfl ?_)))
      obtain ⟨k1, k2, k3, k4, k5⟩ := key ‹_›
      simp only [forall_const, reduceCtorEq, false_implies, Int.reduceEq] at k3 k4 k5
      rw [beq_iff_eq]
      simp only [W_addl, W_addr, W_subl, W_mull, W_mulr]
      congr 1
      omega

end Go.Proofs.Ytemlkfcbcphenaa

/-! The law on paths. -/
namespace Go.Proofs.Ytemlkfcbcphenaa
open Go.RowKit
set_option linter.unusedSimpArgs false
set_option linter.unusedVariables false
set_option maxRecDepth 100000
set_option maxHeartbeats 4000000

theorem claw_Paths (v v' : Value) (l l' : List Int) (hl : l.length ≤ 9223372036854775807) (hb : ∀ n ∈ l, 0 ≤ n ∧ n ≤ 255) (hb' : ∀ n ∈ l', 0 ≤ n ∧ n ≤ 255) : AFun Try.prog 3 [] [By v l, By v' l'] (Bo true) [] [] := by
  by_cases hbig : (decide (1048576 < l.length) || decide (1048576 - l.length < l'.length)) = true
  · have hc := laws_big v v' l l' hl
    rw [hbig] at hc
    refine afun_intro fn3 rfl rfl (by repeat' (first | exact trivial | (simp; done) | refine ⟨?_, ?_⟩)) ?_
    unfold ac3
    repeat' (first | ((with_reducible refine (?_ : (_ : Bool) = _)); (with_reducible rfl)) | ((with_reducible refine (?_ : (_ : Nat × Nat) = _)); (with_reducible rfl)) | (with_reducible refine leafRI ?_) | (with_reducible refine leafRB ?_) | (with_reducible refine leafI ?_) | (with_reducible refine leafB ?_) | ((with_reducible refine (?_ : (_ : Int) = _)); (with_reducible rfl)) | ((with_reducible refine (?_ : (_ : List (List Value)) = _)); (with_reducible rfl)) | ((with_reducible refine (?_ : (_ : Int) ≠ 0)); (first | assumption | omega | (simp; done) | (simp only [ints_len] at *; omega) | (simp; omega))) | ((with_reducible refine (?_ : (_ : Int) ≤ _)); (first | assumption | omega | (simp; done) | (simp only [ints_len] at *; omega) | (simp; omega))) | ((with_reducible refine (?_ : (_ : Int) < _)); (first | assumption | omega | (simp; done) | (simp only [ints_len] at *; omega) | (simp; omega))) | ((with_reducible refine (?_ : (_ : Nat) ≤ _)); (first | omega | (simp only [List.length_cons, List.length_nil]; omega) | (simp [ints]; done) | (simp; omega))) | ((with_reducible refine (?_ : (_ : Nat) < _)); (first | omega | (simp only [List.length_cons, List.length_nil]; omega) | (simp [ints]; done) | (simp; omega))) | ((with_reducible refine (?_ : (_ : Nat) = _)); (first | (with_reducible rfl) | (simp; done) | (simp only [fr_len]) | (simp only [ints_len]) | omega | (simp [*]; done))) | (refine And.intro ?_ ?_) | (intro h; first | (exact Bool.noConfusion h) | ((simp only [decide_eq_true_eq, decide_eq_false_iff_not, beq_iff_eq, bne_iff_ne, ne_eq, beq_eq_false_iff_ne, bne_eq_false_iff_eq, Bool.not_eq_true', Bool.not_eq_false', Bool.not_eq_true, Bool.not_eq_false, Int.not_le, Int.not_lt, Bool.and_eq_true, Bool.or_eq_true, Bool.or_eq_false_iff, Bool.and_eq_false_iff] at h); (try (first | (exact Bool.noConfusion h) | (exact (h trivial).elim)))) | skip) | ((refine (?_ : ACall _ _ _ _ _ _ _)); first | ((apply acall (hc)); (focus (repeat' (first | exact rfl | (refine And.intro ?_ ?_) | (simp only [ints_len]; done) | (simp; done) | omega))))) | ((with_reducible refine (?_ : chk _ _ = true)); kernel_rfl) | ((with_reducible refine (?_ : (_ : IntKind) = _)); (with_reducible rfl)) | ((with_reducible refine (?_ : eqC (C.pvw _ _ _) (C.pvw _ _ _))); exact rfl) | ((with_reducible refine (?_ : eqC (C.pv (Value.int IntKind.u64 _)) _)); exact rfl) | exact trivial)
  · have hc := laws_big v v' l l' hl
    rw [Bool.eq_false_iff.2 hbig] at hc
    simp only [Bool.or_eq_true, decide_eq_true_eq, not_or] at hbig
    have B : BysOk l := ⟨by omega, hb⟩
    have B' : BysOk l' := ⟨by omega, hb'⟩
    obtain ⟨x, y, hx, hy, d1⟩ := DrawPathTo_ex v l B
    obtain ⟨n, i, d2⟩ := DrawStepNode_ex v' l' B'
    have pl : (ptR x y).length ≤ 400 := by
      unfold ptR
      split
      · rename_i hG
        obtain ⟨ht, hs, _⟩ := rg_of hG
        exact (ptL_ok ht hs).2.1
      · simp
    have il := ints_len (ptR x y)
    have cP1 := impl_PathTo x y hx.1 hx.2 hy.1 hy.2
    have cP2 := spec_PathTo x y hx.1 hx.2 hy.1 hy.2
    have cW := impl_WalkNodes (ptR x y) (by omega)
    have cE := laws_sameInts (ptR x y) (ptR x y) (by omega) (by omega)
    rw [decide_eq_true rfl] at cE
    have kW : ptG x y = true → (wkR (ptR x y)).isSome = decide ((ptR x y).length ≤ 200) ∧ ((ptR x y).length ≤ 200 → hasP (rgN x y) (wkV (ptR x y))) := fun h => path_ok h
    have kR : ptG x y = true → rgN x y = (x, y) ∨ rgN x y = (wrap64 (-x), wrap64 (-y)) := fun _ => by unfold rgN; split; exact .inr rfl; exact .inl rfl
    generalize ptG x y = G at *
    generalize (wkR (ptR x y)).isSome = wb at *
    generalize wkV (ptR x y) = wv at *
    generalize ptR x y = L at *
    generalize rgN x y = rg at *
    obtain ⟨⟨v0, v1⟩, ⟨v2, v3⟩, ⟨v4, v5⟩⟩ := wv
    obtain ⟨⟨n0, n1⟩, ⟨n2, n3⟩, ⟨n4, n5⟩⟩ := n
    have cS1 := impl_StepNode n0 n1 n2 n3 n4 n5 i
    have cS2 := spec_StepNode n0 n1 n2 n3 n4 n5 i
    have kS : snG ((n0, n1), (n2, n3), (n4, n5)) i = true → snV ((n0, n1), (n2, n3), (n4, n5)) i = nstp ((n0, n1), (n2, n3), (n4, n5)) i := fun h => by rw [snV, if_pos h]
    generalize hsg : snG ((n0, n1), (n2, n3), (n4, n5)) i = sb at *
    generalize snV ((n0, n1), (n2, n3), (n4, n5)) i = m at *
    obtain ⟨⟨m0, m1⟩, ⟨m2, m3⟩, ⟨m4, m5⟩⟩ := m
    clear hb hb' hl
    have kA : G = true → L.length ≤ 200 → ((v0 = x ∧ v1 = y) ∨ (v2 = x ∧ v3 = y) ∨ (v4 = x ∧ v5 = y) ∨ (v0 = wrap64 (-x) ∧ v1 = wrap64 (-y)) ∨ (v2 = wrap64 (-x) ∧ v3 = wrap64 (-y)) ∨ (v4 = wrap64 (-x) ∧ v5 = wrap64 (-y))) := fun h h2 => by
      have h3 := (kW h).2 h2
      have h4 := kR h
      unfold hasP at h3
      rcases h4 with rfl | rfl <;> simp only [Prod.mk.injEq] at h3 <;> omega
    have kB : G = true → wb = decide (L.length ≤ 200) := fun h => (kW h).1
    clear kW kR
    have hS : forall _ : Unit, (sb = true → ((m0, m1), (m2, m3), (m4, m5)) = nstp ((n0, n1), (n2, n3), (n4, n5)) i) ∧ snG ((n0, n1), (n2, n3), (n4, n5)) i = sb := fun _ => ⟨kS, hsg⟩
    clear kS hsg
    have live : sb = true → forall _ : Unit, ∀ (T0 : List V) (M0 : ML), T0.length = 234 →
        eqsK T0 [(0, By v l), (13, .c (.ptr (13, 0) 0)), (14, I i), (15, .c (.ptr (15, 0) 0)), (19, Bo false), (20, I 1)] →
        memsEq M0 [((13, 0), .bx [cI n0, cI n1, cI n2, cI n3, cI n4, cI n5]), ((15, 0), .bx [cI m0, cI m1, cI m2, cI m3, cI m4, cI m5])] → wpA Try.prog 0 blkP T0 M0 kP := fun h _ T0 M0 h0 h1 h2 =>
      paths_loop v l B ((n0, n1), (n2, n3), (n4, n5)) ((m0, m1), (m2, m3), (m4, m5)) i ((hS ()).2.trans h) ((hS ()).1 h) T0 M0 h0 h1 h2
    clear hS hx hy il pl B B' hbig
    refine afun_intro fn3 rfl rfl (by repeat' (first | exact trivial | (simp; done) | refine ⟨?_, ?_⟩)) ?_
    unfold ac3
    cases G with
    | false =>
      clear kA kB cW
      repeat' (first | ((with_reducible refine (?_ : (_ : Bool) = _)); (with_reducible rfl)) | ((with_reducible refine (?_ : (_ : Nat × Nat) = _)); (with_reducible rfl)) | (with_reducible refine leafRI ?_) | (with_reducible refine leafRB ?_) | (with_reducible refine leafI ?_) | (with_reducible refine leafB ?_) | ((with_reducible refine (?_ : (_ : Int) = _)); (with_reducible rfl)) | ((with_reducible refine (?_ : (_ : List (List Value)) = _)); (with_reducible rfl)) | ((with_reducible refine (?_ : (_ : Int) ≠ 0)); (first | assumption | omega | (simp; done) | (simp only [ints_len] at *; omega) | (simp; omega))) | ((with_reducible refine (?_ : (_ : Int) ≤ _)); (first | assumption | omega | (simp; done) | (simp only [ints_len] at *; omega) | (simp; omega))) | ((with_reducible refine (?_ : (_ : Int) < _)); (first | assumption | omega | (simp; done) | (simp only [ints_len] at *; omega) | (simp; omega))) | ((with_reducible refine (?_ : (_ : Nat) ≤ _)); (first | omega | (simp only [List.length_cons, List.length_nil]; omega) | (simp [ints]; done) | (simp; omega))) | ((with_reducible refine (?_ : (_ : Nat) < _)); (first | omega | (simp only [List.length_cons, List.length_nil]; omega) | (simp [ints]; done) | (simp; omega))) | ((with_reducible refine (?_ : (_ : Nat) = _)); (first | (with_reducible rfl) | (simp; done) | (simp only [fr_len]) | (simp only [ints_len]) | omega | (simp [*]; done))) | (refine And.intro ?_ ?_) | (intro h; first | (exact Bool.noConfusion h) | ((simp only [decide_eq_true_eq, decide_eq_false_iff_not, beq_iff_eq, bne_iff_ne, ne_eq, beq_eq_false_iff_ne, bne_eq_false_iff_eq, Bool.not_eq_true', Bool.not_eq_false', Bool.not_eq_true, Bool.not_eq_false, Int.not_le, Int.not_lt, Bool.and_eq_true, Bool.or_eq_true, Bool.or_eq_false_iff, Bool.and_eq_false_iff] at h); (try (first | (exact Bool.noConfusion h) | (exact (h trivial).elim)))) | skip) | ((refine (?_ : ACall _ _ _ _ _ _ _)); first | ((apply acall (hc)); (focus (repeat' (first | exact rfl | (refine And.intro ?_ ?_) | (simp only [ints_len]; done) | (simp; done) | omega)))) | ((apply acall (d1)); (focus (repeat' (first | exact rfl | (refine And.intro ?_ ?_) | (simp only [ints_len]; done) | (simp; done) | omega)))) | ((apply acall (cP1)); (focus (repeat' (first | exact rfl | (refine And.intro ?_ ?_) | (simp only [ints_len]; done) | (simp; done) | omega)))) | ((apply acall (cP2)); (focus (repeat' (first | exact rfl | (refine And.intro ?_ ?_) | (simp only [ints_len]; done) | (simp; done) | omega)))) | ((apply acall (cE)); (focus (repeat' (first | exact rfl | (refine And.intro ?_ ?_) | (simp only [ints_len]; done) | (simp; done) | omega)))) | ((apply acall (d2)); (focus (repeat' (first | exact rfl | (refine And.intro ?_ ?_) | (simp only [ints_len]; done) | (simp; done) | omega)))) | ((apply acall (cS1)); (focus (repeat' (first | exact rfl | (refine And.intro ?_ ?_) | (simp only [ints_len]; done) | (simp; done) | omega)))) | ((apply acall (cS2)); (focus (repeat' (first | exact rfl | (refine And.intro ?_ ?_) | (simp only [ints_len]; done) | (simp; done) | omega))))) | ((with_reducible refine (?_ : chk _ _ = true)); kernel_rfl) | ((with_reducible refine (?_ : (_ : IntKind) = _)); (with_reducible rfl)) | ((with_reducible refine (?_ : eqC (C.pvw _ _ _) (C.pvw _ _ _))); exact rfl) | ((with_reducible refine (?_ : eqC (C.pv (Value.int IntKind.u64 _)) _)); exact rfl) | exact trivial)
      · exact absurd h (by simp)
      · have hl := live ‹sb = true› ()
        clear live hc d1 cP1 cP2 cE d2 cS1 cS2
        refine (?_ : ALoop _ _ _ _ _ _)
        exact hl _ _ rfl (by repeat' (first | exact trivial | exact rfl | (refine And.intro ?_ ?_))) (by repeat' (first | exact trivial | exact rfl | (refine And.intro ?_ ?_)))
    | true =>
      have kB' := kB rfl
      have kA' := kA rfl
      clear kA kB
      by_cases hL : L.length ≤ 200
      · rw [decide_eq_true hL] at kB'
        subst kB'
        have kA2 := kA' hL
        clear kA'
        repeat' (first | ((with_reducible refine (?_ : (_ : Bool) = _)); (with_reducible rfl)) | ((with_reducible refine (?_ : (_ : Nat × Nat) = _)); (with_reducible rfl)) | (with_reducible refine leafRI ?_) | (with_reducible refine leafRB ?_) | (with_reducible refine leafI ?_) | (with_reducible refine leafB ?_) | ((with_reducible refine (?_ : (_ : Int) = _)); (with_reducible rfl)) | ((with_reducible refine (?_ : (_ : List (List Value)) = _)); (with_reducible rfl)) | ((with_reducible refine (?_ : (_ : Int) ≠ 0)); (first | assumption | omega | (simp; done) | (simp only [ints_len] at *; omega) | (simp; omega))) | ((with_reducible refine (?_ : (_ : Int) ≤ _)); (first | assumption | omega | (simp; done) | (simp only [ints_len] at *; omega) | (simp; omega))) | ((with_reducible refine (?_ : (_ : Int) < _)); (first | assumption | omega | (simp; done) | (simp only [ints_len] at *; omega) | (simp; omega))) | ((with_reducible refine (?_ : (_ : Nat) ≤ _)); (first | omega | (simp only [List.length_cons, List.length_nil]; omega) | (simp [ints]; done) | (simp; omega))) | ((with_reducible refine (?_ : (_ : Nat) < _)); (first | omega | (simp only [List.length_cons, List.length_nil]; omega) | (simp [ints]; done) | (simp; omega))) | ((with_reducible refine (?_ : (_ : Nat) = _)); (first | (with_reducible rfl) | (simp; done) | (simp only [fr_len]) | (simp only [ints_len]) | omega | (simp [*]; done))) | (refine And.intro ?_ ?_) | (intro h; first | (exact Bool.noConfusion h) | ((simp only [decide_eq_true_eq, decide_eq_false_iff_not, beq_iff_eq, bne_iff_ne, ne_eq, beq_eq_false_iff_ne, bne_eq_false_iff_eq, Bool.not_eq_true', Bool.not_eq_false', Bool.not_eq_true, Bool.not_eq_false, Int.not_le, Int.not_lt, Bool.and_eq_true, Bool.or_eq_true, Bool.or_eq_false_iff, Bool.and_eq_false_iff] at h); (try (exfalso; omega))) | skip) | ((refine (?_ : ACall _ _ _ _ _ _ _)); first | ((apply acall (hc)); (focus (repeat' (first | exact rfl | (refine And.intro ?_ ?_) | (simp only [ints_len]; done) | (simp; done) | omega)))) | ((apply acall (d1)); (focus (repeat' (first | exact rfl | (refine And.intro ?_ ?_) | (simp only [ints_len]; done) | (simp; done) | omega)))) | ((apply acall (cP1)); (focus (repeat' (first | exact rfl | (refine And.intro ?_ ?_) | (simp only [ints_len]; done) | (simp; done) | omega)))) | ((apply acall (cP2)); (focus (repeat' (first | exact rfl | (refine And.intro ?_ ?_) | (simp only [ints_len]; done) | (simp; done) | omega)))) | ((apply acall (cE)); (focus (repeat' (first | exact rfl | (refine And.intro ?_ ?_) | (simp only [ints_len]; done) | (simp; done) | omega)))) | ((apply acall (cW)); (focus (repeat' (first | exact rfl | (refine And.intro ?_ ?_) | (simp only [ints_len]; done) | (simp; done) | omega)))) | ((apply acall (d2)); (focus (repeat' (first | exact rfl | (refine And.intro ?_ ?_) | (simp only [ints_len]; done) | (simp; done) | omega)))) | ((apply acall (cS1)); (focus (repeat' (first | exact rfl | (refine And.intro ?_ ?_) | (simp only [ints_len]; done) | (simp; done) | omega)))) | ((apply acall (cS2)); (focus (repeat' (first | exact rfl | (refine And.intro ?_ ?_) | (simp only [ints_len]; done) | (simp; done) | omega))))) | ((with_reducible refine (?_ : chk _ _ = true)); kernel_rfl) | ((with_reducible refine (?_ : (_ : IntKind) = _)); (with_reducible rfl)) | ((with_reducible refine (?_ : eqC (C.pvw _ _ _) (C.pvw _ _ _))); exact rfl) | ((with_reducible refine (?_ : eqC (C.pv (Value.int IntKind.u64 _)) _)); exact rfl) | exact trivial)
        all_goals (first | (refine (?_ : ALoop _ _ _ _ _ _); exact live ‹sb = true› () _ _ rfl (by repeat' (first | exact trivial | exact rfl | (refine And.intro ?_ ?_))) (by repeat' (first | exact trivial | exact rfl | (refine And.intro ?_ ?_)))) | (exfalso; clear live hc d1 cP1 cP2 cE d2 cS1 cS2 cW; first | (simp_all; done) | (simp_all; omega) | grind))
      · rw [decide_eq_false hL] at kB'
        subst kB'
        clear kA'
        repeat' (first | ((with_reducible refine (?_ : (_ : Bool) = _)); (with_reducible rfl)) | ((with_reducible refine (?_ : (_ : Nat × Nat) = _)); (with_reducible rfl)) | (with_reducible refine leafRI ?_) | (with_reducible refine leafRB ?_) | (with_reducible refine leafI ?_) | (with_reducible refine leafB ?_) | ((with_reducible refine (?_ : (_ : Int) = _)); (with_reducible rfl)) | ((with_reducible refine (?_ : (_ : List (List Value)) = _)); (with_reducible rfl)) | ((with_reducible refine (?_ : (_ : Int) ≠ 0)); (first | assumption | omega | (simp; done) | (simp only [ints_len] at *; omega) | (simp; omega))) | ((with_reducible refine (?_ : (_ : Int) ≤ _)); (first | assumption | omega | (simp; done) | (simp only [ints_len] at *; omega) | (simp; omega))) | ((with_reducible refine (?_ : (_ : Int) < _)); (first | assumption | omega | (simp; done) | (simp only [ints_len] at *; omega) | (simp; omega))) | ((with_reducible refine (?_ : (_ : Nat) ≤ _)); (first | omega | (simp only [List.length_cons, List.length_nil]; omega) | (simp [ints]; done) | (simp; omega))) | ((with_reducible refine (?_ : (_ : Nat) < _)); (first | omega | (simp only [List.length_cons, List.length_nil]; omega) | (simp [ints]; done) | (simp; omega))) | ((with_reducible refine (?_ : (_ : Nat) = _)); (first | (with_reducible rfl) | (simp; done) | (simp only [fr_len]) | (simp only [ints_len]) | omega | (simp [*]; done))) | (refine And.intro ?_ ?_) | (intro h; first | (exact Bool.noConfusion h) | ((simp only [decide_eq_true_eq, decide_eq_false_iff_not, beq_iff_eq, bne_iff_ne, ne_eq, beq_eq_false_iff_ne, bne_eq_false_iff_eq, Bool.not_eq_true', Bool.not_eq_false', Bool.not_eq_true, Bool.not_eq_false, Int.not_le, Int.not_lt, Bool.and_eq_true, Bool.or_eq_true, Bool.or_eq_false_iff, Bool.and_eq_false_iff] at h); (try (exfalso; omega))) | skip) | ((refine (?_ : ACall _ _ _ _ _ _ _)); first | ((apply acall (hc)); (focus (repeat' (first | exact rfl | (refine And.intro ?_ ?_) | (simp only [ints_len]; done) | (simp; done) | omega)))) | ((apply acall (d1)); (focus (repeat' (first | exact rfl | (refine And.intro ?_ ?_) | (simp only [ints_len]; done) | (simp; done) | omega)))) | ((apply acall (cP1)); (focus (repeat' (first | exact rfl | (refine And.intro ?_ ?_) | (simp only [ints_len]; done) | (simp; done) | omega)))) | ((apply acall (cP2)); (focus (repeat' (first | exact rfl | (refine And.intro ?_ ?_) | (simp only [ints_len]; done) | (simp; done) | omega)))) | ((apply acall (cE)); (focus (repeat' (first | exact rfl | (refine And.intro ?_ ?_) | (simp only [ints_len]; done) | (simp; done) | omega)))) | ((apply acall (cW)); (focus (repeat' (first | exact rfl | (refine And.intro ?_ ?_) | (simp only [ints_len]; done) | (simp; done) | omega)))) | ((apply acall (d2)); (focus (repeat' (first | exact rfl | (refine And.intro ?_ ?_) | (simp only [ints_len]; done) | (simp; done) | omega)))) | ((apply acall (cS1)); (focus (repeat' (first | exact rfl | (refine And.intro ?_ ?_) | (simp only [ints_len]; done) | (simp; done) | omega)))) | ((apply acall (cS2)); (focus (repeat' (first | exact rfl | (refine And.intro ?_ ?_) | (simp only [ints_len]; done) | (simp; done) | omega))))) | ((with_reducible refine (?_ : chk _ _ = true)); kernel_rfl) | ((with_reducible refine (?_ : (_ : IntKind) = _)); (with_reducible rfl)) | ((with_reducible refine (?_ : eqC (C.pvw _ _ _) (C.pvw _ _ _))); exact rfl) | ((with_reducible refine (?_ : eqC (C.pv (Value.int IntKind.u64 _)) _)); exact rfl) | exact trivial)
        all_goals (first | (refine (?_ : ALoop _ _ _ _ _ _); exact live ‹sb = true› () _ _ rfl (by repeat' (first | exact trivial | exact rfl | (refine And.intro ?_ ?_))) (by repeat' (first | exact trivial | exact rfl | (refine And.intro ?_ ?_)))) | (exfalso; clear live hc d1 cP1 cP2 cE d2 cS1 cS2 cW; first | (simp_all; done) | (simp_all; omega) | grind))

theorem law_Paths (v v' : Value) (l l' : List Int) (w : World) (hl : l.length ≤ 9223372036854775807) (hb : ∀ n ∈ l, 0 ≤ n ∧ n ≤ 255) (hb' : ∀ n ∈ l', 0 ≤ n ∧ n ≤ 255) (h1 : ViewOk w (fun k => k < w.heap.size) 1 (byts l) v) (h2 : ViewOk w (fun k => k < w.heap.size) 1 (byts l') v') : Calls Try.prog 3 #[v, v'] w fun e w' => e = .returned (.bool (true)) ∧ Below w.heap.size w w' := by
  exact law_of_afunA (claw_Paths v v' l l' hl hb hb') w ⟨⟨rfl, h1⟩, ⟨rfl, h2⟩, trivial⟩

end Go.Proofs.Ytemlkfcbcphenaa

/-! The law on paths: over slices of bytes that came in. -/
namespace Go.Proofs.Ytemlkfcbcphenaa
open Go.RowKit

theorem law_PathsB (l : List Int) (k : List Int) (w : World) (v : Value) (hv : CameB w l v) (u : Value) (hu : CameB w k u) : Calls Try.prog 3 #[v, u] w fun e w' => e = .returned (.bool (true)) ∧ Below w.heap.size w w' := by
  exact law_Paths v u l k w hv.len hv.byte hu.byte hv.view hu.view

end Go.Proofs.Ytemlkfcbcphenaa
