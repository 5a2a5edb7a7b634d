/- Slices of 8 slices: looked at again. -/
import Derived.Test.YtfbadfnhnaaeeaaUA
namespace Go.Proofs.Ytfbadfnhnaaeeaa
open Go.RowKit
set_option linter.unusedSimpArgs false
set_option linter.unusedVariables false
set_option maxRecDepth 100000
set_option maxHeartbeats 20000000

theorem hdSS8 (n : Nat) (hn : n ≤ 1000000) (k : Int) (k1 : 0 ≤ k) (k2 : k ≤ 1000) : AFun Try.prog 8 [.cs 28 [.slc (0, 1) n, .slc (0, 2) n, .slc (0, 3) n, .slc (0, 4) n, .slc (0, 5) n, .slc (0, 6) n, .slc (0, 7) n, .slc (0, 8) n], FI (iota (k) n), FI (iota (k + n) n), FI (iota (k + n + n) n), FI (iota (k + n + n + n) n), FI (iota (k + n + n + n + n) n), FI (iota (k + n + n + n + n + n) n), FI (iota (k + n + n + n + n + n + n) n), FI (iota (k + n + n + n + n + n + n + n) n)] [.c (.slc (0, 0) 8), I k] (I (k + n + n + n + n + n + n + n + n)) [.cs 28 [.slc (0, 1) n, .slc (0, 2) n, .slc (0, 3) n, .slc (0, 4) n, .slc (0, 5) n, .slc (0, 6) n, .slc (0, 7) n, .slc (0, 8) n], FI (iota (k) n), FI (iota (k + n) n), FI (iota (k + n + n) n), FI (iota (k + n + n + n) n), FI (iota (k + n + n + n + n) n), FI (iota (k + n + n + n + n + n) n), FI (iota (k + n + n + n + n + n + n) n), FI (iota (k + n + n + n + n + n + n + n) n)] [] := by
  have e0 := ints_len (iota (k) n)
  have f0 := iota_len (k) n
  have e1 := ints_len (iota (k + n) n)
  have f1 := iota_len (k + n) n
  have e2 := ints_len (iota (k + n + n) n)
  have f2 := iota_len (k + n + n) n
  have e3 := ints_len (iota (k + n + n + n) n)
  have f3 := iota_len (k + n + n + n) n
  have e4 := ints_len (iota (k + n + n + n + n) n)
  have f4 := iota_len (k + n + n + n + n) n
  have e5 := ints_len (iota (k + n + n + n + n + n) n)
  have f5 := iota_len (k + n + n + n + n + n) n
  have e6 := ints_len (iota (k + n + n + n + n + n + n) n)
  have f6 := iota_len (k + n + n + n + n + n + n) n
  have e7 := ints_len (iota (k + n + n + n + n + n + n + n) n)
  have f7 := iota_len (k + n + n + n + n + n + n + n) n
  refine afun_intro fn8 rfl rfl (by repeat' (first | exact trivial | (simp; done) | (simp [*]; done) | refine ⟨?_, ?_⟩)) ?_
  unfold ac8
  repeat' (first | ((with_reducible refine (?_ : (_ : Bool) = _)); (with_reducible rfl)) | ((with_reducible refine (?_ : (_ : Nat × Nat) = _)); (with_reducible rfl)) | (with_reducible refine leafRI ?_) | (with_reducible refine leafRB ?_) | (with_reducible refine leafI ?_) | (with_reducible refine leafB ?_) | ((with_reducible refine (?_ : (_ : Int) = _)); (with_reducible rfl)) | ((with_reducible refine (?_ : (_ : List (List Value)) = _)); (with_reducible rfl)) | ((with_reducible refine (?_ : (_ : Int) ≠ 0)); (first | assumption | (decide +kernel) | omega | (simp; done) | (simp only [ints_len] at *; omega) | (simp; omega))) | ((with_reducible refine (?_ : (_ : Int) ≤ _)); (first | assumption | (decide +kernel) | omega | (simp; done) | (simp only [ints_len] at *; omega) | (simp; omega))) | ((with_reducible refine (?_ : (_ : Int) < _)); (first | assumption | (decide +kernel) | omega | (simp; done) | (simp only [ints_len] at *; omega) | (simp; omega))) | ((with_reducible refine (?_ : (_ : Nat) ≤ _)); (first | omega | (simp only [List.length_cons, List.length_nil]; omega) | (simp [ints]; done) | (simp; omega))) | ((with_reducible refine (?_ : (_ : Nat) < _)); (first | omega | (simp only [List.length_cons, List.length_nil]; omega) | (simp [ints]; done) | (simp; omega))) | ((with_reducible refine (?_ : (_ : Nat) = _)); (first | (with_reducible rfl) | (simp; done) | (simp only [fr_len]) | (simp only [ints_len]) | omega | (simp [*]; done))) | (refine And.intro ?_ ?_) | (intro h; first | (exact Bool.noConfusion h) | (exact absurd h (by decide)) | (exact absurd h (by decide +kernel)) | ((simp only [decide_eq_true_eq, decide_eq_false_iff_not, beq_iff_eq, bne_iff_ne, ne_eq, beq_eq_false_iff_ne, bne_eq_false_iff_eq, Bool.not_eq_true', Bool.not_eq_false', Bool.not_eq_true, Bool.not_eq_false, Int.not_le, Int.not_lt, Bool.and_eq_true, Bool.or_eq_true, Bool.or_eq_false_iff, Bool.and_eq_false_iff] at h); (try (first | (exact Bool.noConfusion h) | (exact (h trivial).elim)))) | skip) | (refine aunroll 20 ?_) | (first | (refine ex_at (q := 0) (by decide +kernel) ?_) | (refine ex_at (q := 1) (by decide +kernel) ?_) | (refine ex_at (q := 2) (by decide +kernel) ?_) | (refine ex_at (q := 3) (by decide +kernel) ?_) | (refine ex_at (q := 4) (by decide +kernel) ?_) | (refine ex_at (q := 5) (by decide +kernel) ?_) | (refine ex_at (q := 6) (by decide +kernel) ?_) | (refine ex_at (q := 7) (by decide +kernel) ?_) | (refine ex_at (q := 8) (by decide +kernel) ?_)) | (first | (refine ex_nat (q := 0) (by decide +kernel) (by decide +kernel) ?_) | (refine ex_nat (q := 1) (by decide +kernel) (by decide +kernel) ?_) | (refine ex_nat (q := 2) (by decide +kernel) (by decide +kernel) ?_) | (refine ex_nat (q := 3) (by decide +kernel) (by decide +kernel) ?_) | (refine ex_nat (q := 4) (by decide +kernel) (by decide +kernel) ?_) | (refine ex_nat (q := 5) (by decide +kernel) (by decide +kernel) ?_) | (refine ex_nat (q := 6) (by decide +kernel) (by decide +kernel) ?_) | (refine ex_nat (q := 7) (by decide +kernel) (by decide +kernel) ?_) | (refine ex_nat (q := 8) (by decide +kernel) (by decide +kernel) ?_)) | ((refine (?_ : ACall _ _ _ _ _ _ _)); first | ((apply acall (hdN n _ ?_ ?_ ?_)); (focus (repeat' (first | exact rfl | (refine And.intro ?_ ?_) | (simp only [ints_len]; done) | (simp; done) | omega))))) | ((with_reducible refine (?_ : chk _ _ = true)); kernel_rfl) | ((with_reducible refine (?_ : (_ : IntKind) = _)); (with_reducible rfl)) | ((with_reducible refine (?_ : eqC (C.pvw _ _ _) (C.pvw _ _ _))); exact rfl) | ((with_reducible refine (?_ : eqC (C.pv (Value.int IntKind.u64 _)) _)); exact rfl) | ((with_reducible refine (?_ : eqC (C.pv (Value.string _)) _)); exact rfl) | exact trivial | (refine Exists.intro _ (And.intro rfl ?_)))
  all_goals first | rfl | omega | (simp; done)

end Go.Proofs.Ytfbadfnhnaaeeaa
