/- The law on SymbolTable, by the number of classes. -/
import Derived.Test.YtfbadfnhnaaeeaaUA8
import Derived.Test.YtfbadfnhnaaeeaaUM8
import Derived.Test.YtfbadfnhnaaeeaaUH8
namespace Go.Proofs.Ytfbadfnhnaaeeaa
open Go.RowKit
set_option linter.unusedSimpArgs false
set_option linter.unusedVariables false
set_option maxRecDepth 100000
set_option maxHeartbeats 20000000

theorem stl8 (p : Int) (r0 r1 r2 r3 r4 r5 r6 r7 : List Int) (h0 : r0.length = 8) (h1 : r1.length = 8) (h2 : r2.length = 8) (h3 : r3.length = 8) (h4 : r4.length = 8) (h5 : r5.length = 8) (h6 : r6.length = 8) (h7 : r7.length = 8) (s1 : AFun Try.prog 4 [] [I p] (PS 8 true) [] [.cs 28 [.slc (0, 1) 8, .slc (0, 2) 8, .slc (0, 3) 8, .slc (0, 4) 8, .slc (0, 5) 8, .slc (0, 6) 8, .slc (0, 7) 8, .slc (0, 8) 8], FI r0, FI r1, FI r2, FI r3, FI r4, FI r5, FI r6, FI r7]) (s2 : AFun Try.prog 5 [] [I p] (PS 8 true) [] [.cs 28 [.slc (0, 1) 8, .slc (0, 2) 8, .slc (0, 3) 8, .slc (0, 4) 8, .slc (0, 5) 8, .slc (0, 6) 8, .slc (0, 7) 8, .slc (0, 8) 8], FI r0, FI r1, FI r2, FI r3, FI r4, FI r5, FI r6, FI r7]) : AFun Try.prog 3 [] [I p] (Bo true) [] [] := by
  have e0 := ints_len r0
  have e1 := ints_len r1
  have e2 := ints_len r2
  have e3 := ints_len r3
  have e4 := ints_len r4
  have e5 := ints_len r5
  have e6 := ints_len r6
  have e7 := ints_len r7
  refine afun_intro fn3 rfl rfl (by repeat' (first | exact trivial | (simp; done) | (simp [*]; done) | refine ⟨?_, ?_⟩)) ?_
  unfold ac3
  repeat' (first | ((with_reducible refine (?_ : (_ : Bool) = _)); (with_reducible rfl)) | ((with_reducible refine (?_ : (_ : Nat × Nat) = _)); (with_reducible rfl)) | (with_reducible refine leafRI ?_) | (with_reducible refine leafRB ?_) | (with_reducible refine leafI ?_) | (with_reducible refine leafB ?_) | ((with_reducible refine (?_ : (_ : Int) = _)); (with_reducible rfl)) | ((with_reducible refine (?_ : (_ : List (List Value)) = _)); (with_reducible rfl)) | ((with_reducible refine (?_ : (_ : Int) ≠ 0)); (first | assumption | omega | (simp; done) | (simp only [ints_len] at *; omega) | (simp; omega))) | ((with_reducible refine (?_ : (_ : Int) ≤ _)); (first | assumption | omega | (simp; done) | (simp only [ints_len] at *; omega) | (simp; omega))) | ((with_reducible refine (?_ : (_ : Int) < _)); (first | assumption | omega | (simp; done) | (simp only [ints_len] at *; omega) | (simp; omega))) | ((with_reducible refine (?_ : (_ : Nat) ≤ _)); (first | omega | (simp only [List.length_cons, List.length_nil]; omega) | (simp [ints]; done) | (simp; omega))) | ((with_reducible refine (?_ : (_ : Nat) < _)); (first | omega | (simp only [List.length_cons, List.length_nil]; omega) | (simp [ints]; done) | (simp; omega))) | ((with_reducible refine (?_ : (_ : Nat) = _)); (first | (with_reducible rfl) | (simp; done) | (simp only [fr_len]) | (simp only [ints_len]) | omega | (simp [*]; done))) | (refine And.intro ?_ ?_) | (intro h; first | (exact Bool.noConfusion h) | ((simp only [decide_eq_true_eq, decide_eq_false_iff_not, beq_iff_eq, bne_iff_ne, ne_eq, beq_eq_false_iff_ne, bne_eq_false_iff_eq, Bool.not_eq_true', Bool.not_eq_false', Bool.not_eq_true, Bool.not_eq_false, Int.not_le, Int.not_lt, Bool.and_eq_true, Bool.or_eq_true, Bool.or_eq_false_iff, Bool.and_eq_false_iff] at h); (try (first | (exact absurd trivial h) | (exfalso; omega)))) | skip) | ((refine (?_ : ACall _ _ _ _ _ _ _)); first | ((apply acall (s1)); (focus ((repeat' (first | exact rfl | (refine And.intro ?_ ?_) | (simp only [ints_len]; done))); done))) | ((apply acall (s2)); (focus ((repeat' (first | exact rfl | (refine And.intro ?_ ?_) | (simp only [ints_len]; done))); done))) | ((apply acs (eqSS8 8 ?_ r0 r1 r2 r3 r4 r5 r6 r7 h0 h1 h2 h3 h4 h5 h6 h7)); (focus (exact rfl)); (focus (exact rfl)); (focus (exact rfl)); (focus (repeat' (first | exact rfl | (refine And.intro ?_ ?_) | (simp; done) | omega))); (focus (repeat' (first | exact trivial | exact rfl | (refine And.intro ?_ ?_))))) | ((apply acs (mkSS8 8 ?_ _ ?_ ?_ r0 r1 r2 r3 r4 r5 r6 r7 h0 h1 h2 h3 h4 h5 h6 h7)); (focus (exact rfl)); (focus (exact rfl)); (focus (exact rfl)); (focus (repeat' (first | exact rfl | (refine And.intro ?_ ?_) | (simp; done) | omega))); (focus (repeat' (first | exact trivial | exact rfl | (refine And.intro ?_ ?_))))) | ((apply acs (hdSS8 8 ?_ _ ?_ ?_)); (focus (exact rfl)); (focus (exact rfl)); (focus (exact rfl)); (focus (repeat' (first | exact rfl | (refine And.intro ?_ ?_) | (simp; done) | omega))); (focus (repeat' (first | exact trivial | exact rfl | (refine And.intro ?_ ?_)))))) | ((with_reducible refine (?_ : chk _ _ = true)); kernel_rfl) | ((with_reducible refine (?_ : (_ : IntKind) = _)); (with_reducible rfl)) | ((with_reducible refine (?_ : eqC (C.pvw _ _ _) (C.pvw _ _ _))); exact rfl) | ((with_reducible refine (?_ : eqC (C.pv (Value.int IntKind.u64 _)) _)); exact rfl) | ((with_reducible refine (?_ : eqC (C.pv (Value.string _)) _)); exact rfl) | exact trivial)
  all_goals first | rfl | omega | (simp; done)

end Go.Proofs.Ytfbadfnhnaaeeaa
