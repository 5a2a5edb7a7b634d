/- The law on SymbolTable: joined. -/
import Derived.Test.YtfbadfnhnaaeeaaUC
import Derived.Test.YtfbadfnhnaaeeaaUC8
import Derived.Test.YtfbadfnhnaaeeaaUB2
import Derived.Test.YtfbadfnhnaaeeaaUB4
import Derived.Test.YtfbadfnhnaaeeaaUB8
import Derived.Test.YtfbadfnhnaaeeaaH3
namespace Go.Proofs.Ytfbadfnhnaaeeaa
open Go.RowKit
set_option linter.unusedSimpArgs false
set_option linter.unusedVariables false
set_option maxRecDepth 100000
set_option maxHeartbeats 2000000

theorem reps_ok {p : Int} (pl : p = 0 ∨ (prime p = true ∧ p ≤ 1000000)) : ∀ a ∈ reps p, a ≠ 0 ∧ a.natAbs ≤ 43000000 := by
  intro a ha
  unfold reps at ha
  split at ha
  · simp only [List.mem_cons, List.not_mem_nil, or_false] at ha; omega
  · rename_i h0
    split at ha
    · simp only [List.mem_cons, List.not_mem_nil, or_false] at ha; omega
    · rename_i h2
      obtain ⟨hp, h1⟩ : prime p = true ∧ p ≤ 1000000 := by rcases pl with e | e; exact absurd e h0; exact e
      obtain ⟨h3, h4⟩ := pr_odd hp h2
      have hl := lnr_spec hp h2 h1
      have p1 := mul_bd (a := lnr p) (b := p) (A := 43) (B := 1000000) (by omega) (by omega) (by omega) (by omega)
      have p2 : 0 < lnr p * p := Int.mul_pos (by omega) (by omega)
      simp only [List.mem_cons, List.not_mem_nil, or_false] at ha
      omega
theorem reps_hok {p : Int} (pl : p = 0 ∨ (prime p = true ∧ p ≤ 1000000)) {a b : Int} (ha : a ∈ reps p) (hb : b ∈ reps p) : HOk a b p := by
  obtain ⟨h1, h2⟩ := reps_ok pl a ha
  obtain ⟨h3, h4⟩ := reps_ok pl b hb
  exact ⟨h1, h3, by omega, by omega, pl⟩

theorem spec_Table0 (p : Int) (c1 : AFun Try.prog 9 [] [I p] (Bo false) [] []) : AFun Try.prog 4 [] [I p] (PS 0 false) [] [.cs 28 []] := by
  refine afun_intro fn4 rfl rfl (by repeat' (first | exact trivial | (simp; done) | (simp [*]; done) | refine ⟨?_, ?_⟩)) ?_
  unfold ac4
  repeat' (first | ((with_reducible refine (?_ : (_ : Bool) = _)); (with_reducible rfl)) | ((with_reducible refine (?_ : (_ : Nat × Nat) = _)); (with_reducible rfl)) | (with_reducible refine leafRI ?_) | (with_reducible refine leafRB ?_) | (with_reducible refine leafI ?_) | (with_reducible refine leafB ?_) | ((with_reducible refine (?_ : (_ : Int) = _)); (with_reducible rfl)) | ((with_reducible refine (?_ : (_ : List (List Value)) = _)); (with_reducible rfl)) | ((with_reducible refine (?_ : (_ : Int) ≠ 0)); (first | assumption | omega | (simp; done) | (simp only [ints_len] at *; omega) | (simp; omega))) | ((with_reducible refine (?_ : (_ : Int) ≤ _)); (first | assumption | omega | (simp; done) | (simp only [ints_len] at *; omega) | (simp; omega))) | ((with_reducible refine (?_ : (_ : Int) < _)); (first | assumption | omega | (simp; done) | (simp only [ints_len] at *; omega) | (simp; omega))) | ((with_reducible refine (?_ : (_ : Nat) ≤ _)); (first | omega | (simp only [List.length_cons, List.length_nil]; omega) | (simp [ints]; done) | (simp; omega))) | ((with_reducible refine (?_ : (_ : Nat) < _)); (first | omega | (simp only [List.length_cons, List.length_nil]; omega) | (simp [ints]; done) | (simp; omega))) | ((with_reducible refine (?_ : (_ : Nat) = _)); (first | (with_reducible rfl) | (simp; done) | (simp only [fr_len]) | (simp only [ints_len]) | omega | (simp [*]; done))) | (refine And.intro ?_ ?_) | (intro h; first | (exact Bool.noConfusion h) | ((simp only [decide_eq_true_eq, decide_eq_false_iff_not, beq_iff_eq, bne_iff_ne, ne_eq, beq_eq_false_iff_ne, bne_eq_false_iff_eq, Bool.not_eq_true', Bool.not_eq_false', Bool.not_eq_true, Bool.not_eq_false, Int.not_le, Int.not_lt, Bool.and_eq_true, Bool.or_eq_true, Bool.or_eq_false_iff, Bool.and_eq_false_iff] at h); (try (first | (exact absurd trivial h) | (exfalso; omega)))) | skip) | ((refine (?_ : ACall _ _ _ _ _ _ _)); first | ((apply acall (c1)); (focus ((repeat' (first | exact rfl | (refine And.intro ?_ ?_) | (simp only [ints_len]; done))); done)))) | ((with_reducible refine (?_ : chk _ _ = true)); kernel_rfl) | ((with_reducible refine (?_ : (_ : IntKind) = _)); (with_reducible rfl)) | ((with_reducible refine (?_ : eqC (C.pvw _ _ _) (C.pvw _ _ _))); exact rfl) | ((with_reducible refine (?_ : eqC (C.pv (Value.int IntKind.u64 _)) _)); exact rfl) | ((with_reducible refine (?_ : eqC (C.pv (Value.string _)) _)); exact rfl) | exact trivial)
  all_goals first | rfl | (simp; done)
theorem impl_Table0 (p : Int) (c1 : AFun Try.prog 12 [] [I p] (Bo false) [] []) : AFun Try.prog 5 [] [I p] (PS 0 false) [] [.cs 28 []] := by
  refine afun_intro fn5 rfl rfl (by repeat' (first | exact trivial | (simp; done) | (simp [*]; done) | refine ⟨?_, ?_⟩)) ?_
  unfold ac5
  repeat' (first | ((with_reducible refine (?_ : (_ : Bool) = _)); (with_reducible rfl)) | ((with_reducible refine (?_ : (_ : Nat × Nat) = _)); (with_reducible rfl)) | (with_reducible refine leafRI ?_) | (with_reducible refine leafRB ?_) | (with_reducible refine leafI ?_) | (with_reducible refine leafB ?_) | ((with_reducible refine (?_ : (_ : Int) = _)); (with_reducible rfl)) | ((with_reducible refine (?_ : (_ : List (List Value)) = _)); (with_reducible rfl)) | ((with_reducible refine (?_ : (_ : Int) ≠ 0)); (first | assumption | omega | (simp; done) | (simp only [ints_len] at *; omega) | (simp; omega))) | ((with_reducible refine (?_ : (_ : Int) ≤ _)); (first | assumption | omega | (simp; done) | (simp only [ints_len] at *; omega) | (simp; omega))) | ((with_reducible refine (?_ : (_ : Int) < _)); (first | assumption | omega | (simp; done) | (simp only [ints_len] at *; omega) | (simp; omega))) | ((with_reducible refine (?_ : (_ : Nat) ≤ _)); (first | omega | (simp only [List.length_cons, List.length_nil]; omega) | (simp [ints]; done) | (simp; omega))) | ((with_reducible refine (?_ : (_ : Nat) < _)); (first | omega | (simp only [List.length_cons, List.length_nil]; omega) | (simp [ints]; done) | (simp; omega))) | ((with_reducible refine (?_ : (_ : Nat) = _)); (first | (with_reducible rfl) | (simp; done) | (simp only [fr_len]) | (simp only [ints_len]) | omega | (simp [*]; done))) | (refine And.intro ?_ ?_) | (intro h; first | (exact Bool.noConfusion h) | ((simp only [decide_eq_true_eq, decide_eq_false_iff_not, beq_iff_eq, bne_iff_ne, ne_eq, beq_eq_false_iff_ne, bne_eq_false_iff_eq, Bool.not_eq_true', Bool.not_eq_false', Bool.not_eq_true, Bool.not_eq_false, Int.not_le, Int.not_lt, Bool.and_eq_true, Bool.or_eq_true, Bool.or_eq_false_iff, Bool.and_eq_false_iff] at h); (try (first | (exact absurd trivial h) | (exfalso; omega)))) | skip) | ((refine (?_ : ACall _ _ _ _ _ _ _)); first | ((apply acall (c1)); (focus ((repeat' (first | exact rfl | (refine And.intro ?_ ?_) | (simp only [ints_len]; done))); done)))) | ((with_reducible refine (?_ : chk _ _ = true)); kernel_rfl) | ((with_reducible refine (?_ : (_ : IntKind) = _)); (with_reducible rfl)) | ((with_reducible refine (?_ : eqC (C.pvw _ _ _) (C.pvw _ _ _))); exact rfl) | ((with_reducible refine (?_ : eqC (C.pv (Value.int IntKind.u64 _)) _)); exact rfl) | ((with_reducible refine (?_ : eqC (C.pv (Value.string _)) _)); exact rfl) | exact trivial)
  all_goals first | rfl | (simp; done)

theorem claw_SymbolTable (p : Int) : AFun Try.prog 3 [] [I p] (Bo true) [] [] := by
  have c1 : AFun Try.prog 9 [] [I p] (Bo (plc p)) [] [] := spec_hiPlace p
  have d1 : AFun Try.prog 12 [] [I p] (Bo (plc p)) [] [] := impl_isPlace p
  cases hp : plc p with
  | false =>
    rw [hp] at c1 d1
    exact stl0 p (spec_Table0 p c1) (impl_Table0 p d1)
  | true =>
    rw [hp] at c1 d1
    have pl := plc_ok hp
    have c2 := spec_hiClasses p pl
    have d2 := impl_localClasses p pl
    have c3 : ∀ a b, a ∈ reps p → b ∈ reps p → AFun Try.prog 11 [] [I a, I b, I p] (I (hil a b p)) [] [] := fun a b ha hb => spec_hiSymbol a b p (reps_hok pl ha hb)
    have d3 : ∀ a b, a ∈ reps p → b ∈ reps p → AFun Try.prog 14 [] [I a, I b, I p] (I (hil a b p)) [] [] := fun a b ha hb => impl_hilbert a b p (reps_hok pl ha hb)
    by_cases h0 : p = 0
    · have e : reps p = [1, -1] := by unfold reps; rw [if_pos h0]
      rw [e] at c2 d2 c3 d3
      exact stl2 p _ _ rfl rfl (spec_Table2 p (fun a b => hil a b p) 1 (-1) c1 c2 c3) (impl_Table2 p (fun a b => hil a b p) 1 (-1) d1 d2 d3)
    by_cases h2 : p = 2
    · have e : reps p = [1, 3, 5, 7, 2, 6, 10, 14] := by unfold reps; rw [if_neg h0, if_pos h2]
      rw [e] at c2 d2 c3 d3
      exact stl8 p _ _ _ _ _ _ _ _ rfl rfl rfl rfl rfl rfl rfl rfl (spec_Table8 p (fun a b => hil a b p) 1 3 5 7 2 6 10 14 c1 c2 c3) (impl_Table8 p (fun a b => hil a b p) 1 3 5 7 2 6 10 14 d1 d2 d3)
    · have e : reps p = [1, lnr p, p, lnr p * p] := by unfold reps; rw [if_neg h0, if_neg h2]
      rw [e] at c2 d2 c3 d3
      exact stl4 p _ _ _ _ rfl rfl rfl rfl (spec_Table4 p (fun a b => hil a b p) 1 (lnr p) p (lnr p * p) c1 c2 c3) (impl_Table4 p (fun a b => hil a b p) 1 (lnr p) p (lnr p * p) d1 d2 d3)

theorem law_SymbolTable (p : Int) (w : World) : Calls Try.prog 3 #[.int .i64 p] w fun e w' => e = .returned (.bool (true)) ∧ Below w.heap.size w w' := by
  exact law_of_afun (claw_SymbolTable p) rfl w

end Go.Proofs.Ytfbadfnhnaaeeaa
