/- Words. -/
import Derived.Test.YtfcndlagnhaafaaG1
import Derived.Test.YtfcndlagnhaafaaF13
import Derived.Test.YtfcndlagnhaafaaE21
namespace Go.Proofs.Ytfcndlagnhaafaa
open Go.RowKit
set_option linter.unusedSimpArgs false
set_option linter.unusedVariables false
set_option maxRecDepth 100000

abbrev Wo (g : Int) (l : List Int) : V := .agg [cI g, .view 1 (ints l)]
abbrev WoS (g : Int) (n : Nat) : V := .agg [cI g, .slc (0, 0) n]

/-- The first n of l, the rest 0. -/
def cpy (l : List Int) (n : Nat) : List Int := l.take n ++ List.replicate (l.length - n) 0
theorem cpy_len {l : List Int} {n : Nat} (h : n ≤ l.length) : (cpy l n).length = l.length := by simp [cpy]; omega
theorem cpy_step {l : List Int} {n : Nat} {x : Int} (h : l[n]? = some x) : (cpy l n).set n x = cpy l (n + 1) := by
  obtain ⟨h1, h2⟩ := List.getElem?_eq_some_iff.1 h
  have h3 : (l.take n).length = n := by simp; omega
  rw [cpy, cpy, List.set_append_right _ _ (by omega), h3, Nat.sub_self, show l.length - n = (l.length - (n + 1)) + 1 by omega, List.replicate_succ, List.set_cons_zero, List.take_add_one, h]
  simp
theorem cpy_all (l : List Int) : cpy l l.length = l := by simp [cpy]
theorem cpy_zero (l : List Int) : List.replicate l.length [Value.int .i64 0] = ints (cpy l 0) := by simp [cpy, ints]

def wrd (g : Int) (l : List Int) : Bool := decide (g = 1 ∨ g = -1) && decide (1 ≤ l.length) && decide (l.length ≤ 40) && l.all num

theorem spec_l1AbsW (n : Int) (_ln : -9223372036854775808 ≤ n) (_un : n ≤ 9223372036854775807) : AFun Try.prog 54 [] [I n] (I (max n (wrap64 (-n)))) [] [] := by
  refine afun_intro fn54 rfl rfl (by repeat' (first | exact trivial | (simp; done) | refine ⟨?_, ?_⟩)) ?_
  unfold ac54
  repeat' (first | ((with_reducible refine (?_ : (_ : Bool) = _)); (with_reducible rfl)) | ((with_reducible refine (?_ : (_ : Nat × Nat) = _)); (with_reducible rfl)) | (with_reducible refine leafRI ?_) | (with_reducible refine leafRB ?_) | (with_reducible refine leafI ?_) | (with_reducible refine leafB ?_) | ((with_reducible refine (?_ : (_ : Int) = _)); (with_reducible rfl)) | ((with_reducible refine (?_ : (_ : List (List Value)) = _)); (with_reducible rfl)) | ((with_reducible refine (?_ : (_ : Int) ≠ 0)); (first | assumption | omega | (simp; done) | (simp only [ints_len] at *; omega) | (simp; omega))) | ((with_reducible refine (?_ : (_ : Int) ≤ _)); (first | assumption | omega | (simp; done) | (simp only [ints_len] at *; omega) | (simp; omega))) | ((with_reducible refine (?_ : (_ : Int) < _)); (first | assumption | omega | (simp; done) | (simp only [ints_len] at *; omega) | (simp; omega))) | ((with_reducible refine (?_ : (_ : Nat) ≤ _)); (first | omega | (simp only [List.length_cons, List.length_nil]; omega) | (simp [ints]; done) | (simp; omega))) | ((with_reducible refine (?_ : (_ : Nat) < _)); (first | omega | (simp only [List.length_cons, List.length_nil]; omega) | (simp [ints]; done) | (simp; omega))) | ((with_reducible refine (?_ : (_ : Nat) = _)); (first | (with_reducible rfl) | (simp; done) | (simp only [fr_len]) | (simp only [ints_len]) | omega | (simp [*]; done))) | (refine And.intro ?_ ?_) | (intro h; first | (exact Bool.noConfusion h) | ((simp only [decide_eq_true_eq, decide_eq_false_iff_not, beq_iff_eq, bne_iff_ne, ne_eq, beq_eq_false_iff_ne, bne_eq_false_iff_eq, Bool.not_eq_true', Bool.not_eq_false', Bool.not_eq_true, Bool.not_eq_false, Int.not_le, Int.not_lt, Bool.and_eq_true, Bool.or_eq_true, Bool.or_eq_false_iff, Bool.and_eq_false_iff] at h); (try (first | (exact Bool.noConfusion h) | (exact (h trivial).elim)))) | skip) | ((refine (?_ : ACall _ _ _ _ _ _ _)); first | ((apply acall (spec_l1Most _ _)); (focus (repeat' (first | exact rfl | (refine And.intro ?_ ?_) | (simp only [ints_len]; done) | (simp; done) | omega))))) | ((with_reducible refine (?_ : chk _ _ = true)); kernel_rfl) | ((with_reducible refine (?_ : (_ : IntKind) = _)); (with_reducible rfl)) | ((with_reducible refine (?_ : eqC (C.pvw _ _ _) (C.pvw _ _ _))); exact rfl) | ((with_reducible refine (?_ : eqC (C.pv (Value.int IntKind.u64 _)) _)); exact rfl) | exact trivial)

theorem abs_one {g : Int} (h1 : -9223372036854775808 ≤ g) (h2 : g ≤ 9223372036854775807) : max g (wrap64 (-g)) = 1 ↔ (g = 1 ∨ g = -1) := by
  by_cases e : g = -9223372036854775808
  · subst e; unfold wrap64; omega
  · rw [wrap_small (by omega) (by omega)]; omega

end Go.Proofs.Ytfcndlagnhaafaa
