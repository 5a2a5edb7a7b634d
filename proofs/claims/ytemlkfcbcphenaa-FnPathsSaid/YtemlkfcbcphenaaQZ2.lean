/- Several texts in one: Q3, Q4, QB, QP. -/
import Derived.Test.YtemlkfcbcphenaaQZ1
import Derived.Test.YtemlkfcbcphenaaF38
import Derived.Test.YtemlkfcbcphenaaG8
import Derived.Test.YtemlkfcbcphenaaE21
import Derived.Test.YtemlkfcbcphenaaQZ1
/-! Drawn inputs: proper matrices, nodes, and what the laws on paths draw. -/
namespace Go.Proofs.Ytemlkfcbcphenaa
open Go.RowKit
set_option linter.unusedSimpArgs false
set_option linter.unusedVariables false
set_option maxRecDepth 100000

/-- A chain of so many choices. -/
theorem chainN {α : Type} (N : Nat) (P : Nat → α → Prop) (Q : α → α → Prop) (h : ∀ j x, j < N → P j x → ∃ y, Q x y ∧ P (j + 1) y) (a : α) (h0 : P 0 a) : ∃ f : Nat → α, f 0 = a ∧ ∀ j, (j ≤ N → P j (f j)) ∧ (j < N → Q (f j) (f (j + 1))) := by
  have step : ∀ j (x : { x : α // j ≤ N → P j x }), ∃ y : { y : α // j + 1 ≤ N → P (j + 1) y }, j < N → Q x.1 y.1 := fun j x => by
    by_cases hj : j < N
    · obtain ⟨y, h1, h2⟩ := h j x.1 hj (x.2 (by omega))
      exact ⟨⟨y, fun _ => h2⟩, fun _ => h1⟩
    · exact ⟨⟨x.1, fun hle => absurd hle (by omega)⟩, fun hlt => absurd hlt hj⟩
  let F : (j : Nat) → { x : α // j ≤ N → P j x } := fun j => Nat.rec ⟨a, fun _ => h0⟩ (fun j x => Classical.choose (step j x)) j
  exact ⟨fun j => (F j).1, rfl, fun j => ⟨(F j).2, Classical.choose_spec (step j (F j))⟩⟩

structure PrQ (v : Value) (l : List Int) (x y : T4 × Int × Int) : Prop where
  ex : ∃ t s1 u, AFun Try.prog 16 [Cx v l x.2] [P0, I 9] (I t) [Cx v l s1] [] ∧ AFun Try.prog 16 [Cx v l s1] [P0, I 3] (I u) [Cx v l y.2] [] ∧ (0 ≤ u ∧ (u < 3 ∨ u = 0)) ∧
    y.1 = if u = 0 then mulT x.1 (1, wrap64 (t - 4), 0, 1) else if u = 1 then mulT x.1 (1, 0, wrap64 (t - 4), 1) else mulT x.1 (0, -1, 1, 0)
structure PrP (s : Int × Int) (j : Nat) (x : T4 × Int × Int) : Prop where
  lo : s.1 ≤ x.2.1
  hi : x.2.1 ≤ s.1 + 4 * j
  a : I64 x.1.1
  b : I64 x.1.2.1
  c : I64 x.1.2.2.1
  d : I64 x.1.2.2.2
theorem I64_mul (m n : T4) : I64 (mulT m n).1 ∧ I64 (mulT m n).2.1 ∧ I64 (mulT m n).2.2.1 ∧ I64 (mulT m n).2.2.2 := ⟨I64_wrap _, I64_wrap _, I64_wrap _, I64_wrap _⟩

theorem proper_ex (v : Value) (l : List Int) (hl : BysOk l) (s : Int × Int) (hs : Cv 1600000000000 s) : ∃ (m : T4) (s' : Int × Int), (I64 m.1 ∧ I64 m.2.1 ∧ I64 m.2.2.1 ∧ I64 m.2.2.2) ∧ (s.1 ≤ s'.1 ∧ s'.1 ≤ s.1 + 30) ∧ AFun Try.prog 18 [Cx v l s] [P0] (Ma m.1 m.2.1 m.2.2.1 m.2.2.2) [Cx v l s'] [] := by
  obtain ⟨k, s0, a1, a2, a3⟩ := pick_ex v l hl 6 (by omega) s ⟨hs.1, by have := hs.2; omega⟩
  have c1 := cv_next hs a2 (K := 1600000000002) (by omega)
  obtain ⟨f, f0, hf⟩ := chainN (α := T4 × Int × Int) 10 (PrP s0) (PrQ v l) (fun j x hj hP => by
    obtain ⟨t, s1, b1, b2, b3⟩ := pick_ex v l hl 9 (by omega) x.2 ⟨by have := hP.lo; have := c1.1; omega, by have := hP.hi; have := c1.2; omega⟩
    obtain ⟨u, s2, d1, d2, d3⟩ := pick_ex v l hl 3 (by omega) s1 ⟨by have := hP.lo; have := c1.1; omega, by have := hP.hi; have := c1.2; omega⟩
    refine ⟨(if u = 0 then mulT x.1 (1, wrap64 (t - 4), 0, 1) else if u = 1 then mulT x.1 (1, 0, wrap64 (t - 4), 1) else mulT x.1 (0, -1, 1, 0), s2), ⟨t, s1, u, b3, d3, d1, rfl⟩, ?_⟩
    have key : ∀ m : T4, I64 m.1 ∧ I64 m.2.1 ∧ I64 m.2.2.1 ∧ I64 m.2.2.2 → PrP s0 (j + 1) (m, s2) := fun m hm => ⟨by have := hP.lo; dsimp only; omega, by have := hP.hi; dsimp only; omega, hm.1, hm.2.1, hm.2.2.1, hm.2.2.2⟩
    split
    · exact key _ (I64_mul _ _)
    · split
      · exact key _ (I64_mul _ _)
      · exact key _ (I64_mul _ _)) ((1, 0, 0, 1), s0) ⟨by dsimp only; omega, by dsimp only; omega, I64_small (by simp) (by simp), I64_small (by simp) (by simp), I64_small (by simp) (by simp), I64_small (by simp) (by simp)⟩
  have hk := (hf k.toNat).1 (by omega)
  refine ⟨(f k.toNat).1, (f k.toNat).2, ⟨hk.a, hk.b, hk.c, hk.d⟩, ⟨by have := hk.lo; omega, by have := hk.hi; omega⟩, ?_⟩
  clear hk
  have hf2 : ∀ j : Nat, j < 10 → PrQ v l (f j) (f (j + 1)) := fun j hj => (hf j).2 hj
  clear hf
  refine afun_intro fn18 rfl rfl (by repeat' (first | exact trivial | (simp; done) | refine ⟨?_, ?_⟩)) ?_
  unfold ac18
  repeat' (first | ((with_reducible refine (?_ : (_ : Bool) = _)); (with_reducible rfl)) | ((with_reducible refine (?_ : (_ : Nat × Nat) = _)); (with_reducible rfl)) | (with_reducible refine leafRI ?_) | (with_reducible refine leafRB ?_) | (with_reducible refine leafI ?_) | (with_reducible refine leafB ?_) | ((with_reducible refine (?_ : (_ : Int) = _)); (with_reducible rfl)) | ((with_reducible refine (?_ : (_ : List (List Value)) = _)); (with_reducible rfl)) | ((with_reducible refine (?_ : (_ : Int) ≠ 0)); (first | assumption | omega | (simp; done) | (simp only [ints_len] at *; omega) | (simp; omega))) | ((with_reducible refine (?_ : (_ : Int) ≤ _)); (first | assumption | omega | (simp; done) | (simp only [ints_len] at *; omega) | (simp; omega))) | ((with_reducible refine (?_ : (_ : Int) < _)); (first | assumption | omega | (simp; done) | (simp only [ints_len] at *; omega) | (simp; omega))) | ((with_reducible refine (?_ : (_ : Nat) ≤ _)); (first | omega | (simp only [List.length_cons, List.length_nil]; omega) | (simp [ints]; done) | (simp; omega))) | ((with_reducible refine (?_ : (_ : Nat) < _)); (first | omega | (simp only [List.length_cons, List.length_nil]; omega) | (simp [ints]; done) | (simp; omega))) | ((with_reducible refine (?_ : (_ : Nat) = _)); (first | (with_reducible rfl) | (simp; done) | (simp only [fr_len]) | (simp only [ints_len]) | omega | (simp [*]; done))) | (refine And.intro ?_ ?_) | (intro h; first | (exact Bool.noConfusion h) | ((simp only [decide_eq_true_eq, decide_eq_false_iff_not, beq_iff_eq, bne_iff_ne, ne_eq, beq_eq_false_iff_ne, bne_eq_false_iff_eq, Bool.not_eq_true', Bool.not_eq_false', Bool.not_eq_true, Bool.not_eq_false, Int.not_le, Int.not_lt, Bool.and_eq_true, Bool.or_eq_true, Bool.or_eq_false_iff, Bool.and_eq_false_iff] at h); (try (first | (exact Bool.noConfusion h) | (exact (h trivial).elim)))) | skip) | ((refine (?_ : ACall _ _ _ _ _ _ _)); first | ((apply abox (a3)); (focus (exact rfl)); (focus (exact rfl)); (focus (exact rfl)); (focus (repeat' (first | exact rfl | (refine And.intro ?_ ?_) | (simp; done) | omega))); (focus (repeat' (first | exact trivial | exact rfl | (refine And.intro ?_ ?_)))))) | ((with_reducible refine (?_ : chk _ _ = true)); kernel_rfl) | ((with_reducible refine (?_ : (_ : IntKind) = _)); (with_reducible rfl)) | ((with_reducible refine (?_ : eqC (C.pvw _ _ _) (C.pvw _ _ _))); exact rfl) | ((with_reducible refine (?_ : eqC (C.pv (Value.int IntKind.u64 _)) _)); exact rfl) | exact trivial)
  refine loop_rule (σ := Int × Nat × (Int × Int × Int × Int) × (Int × Int)) (fun s => [(4, I s.1)]) (fun s => [((0, 0), Cx v l s.2.2.2), ((2, 0), .bx [cI 0, cI 0, cI 0, cI 0]), ((3, 0), .bx [cI s.2.2.1.1, cI s.2.2.1.2.1, cI s.2.2.1.2.2.1, cI s.2.2.1.2.2.2])]) (fun s => 0 ≤ s.1 ∧ s.1 + s.2.1 = k ∧ (s.2.2.1, s.2.2.2) = f s.2.1) (fun s => s.1.toNat) ((k, 0, (1, 0, 0, 1), s0)) ?_ (by repeat' (first | exact trivial | exact rfl | (refine And.intro ?_ ?_))) (by repeat' (first | exact trivial | exact rfl | (refine And.intro ?_ ?_))) (fun s => ⟨rfl, rfl⟩) (fun s i h => by first | exact absurd h (Nat.not_lt_zero i) | (cases i with | zero => rfl | succ i => exact absurd (Nat.lt_of_succ_lt_succ h) (Nat.not_lt_zero i))) ?_
  · exact ⟨by dsimp only; omega, by dsimp only; omega, f0.symm⟩
  rintro ⟨i, j, ⟨p, q, r, d⟩, ⟨c, sd⟩⟩ ⟨g1, g2, g3⟩
  dsimp only at g1 g2 g3 ⊢
  have w1 : wrap64 (i - 1) = i - 1 := wrap_small (by omega) (by omega)
  by_cases hi : 0 < i
  · obtain ⟨t, s1, u, b1, b2, b3, b4⟩ := (hf2 j (by omega)).ex
    rw [← g3] at b1 b4
    dsimp only at b1 b4
    generalize hy : f (j + 1) = y at *
    obtain ⟨⟨y1, y2, y3, y4⟩, ⟨y5, y6⟩⟩ := y
    dsimp only at b2 b4
    have hu : u = 0 ∨ u = 1 ∨ u = 2 := by omega
    rcases hu with rfl | rfl | rfl
    · rw [if_pos rfl] at b4
      repeat' (first | ((with_reducible refine (?_ : (_ : Bool) = _)); (with_reducible rfl)) | ((with_reducible refine (?_ : (_ : Nat × Nat) = _)); (with_reducible rfl)) | (with_reducible refine leafRI ?_) | (with_reducible refine leafRB ?_) | (with_reducible refine leafI ?_) | (with_reducible refine leafB ?_) | ((with_reducible refine (?_ : (_ : Int) = _)); (with_reducible rfl)) | ((with_reducible refine (?_ : (_ : List (List Value)) = _)); (with_reducible rfl)) | ((with_reducible refine (?_ : (_ : Int) ≠ 0)); (first | assumption | omega | (simp; done) | (simp only [ints_len] at *; omega) | (simp; omega))) | ((with_reducible refine (?_ : (_ : Int) ≤ _)); (first | assumption | omega | (simp; done) | (simp only [ints_len] at *; omega) | (simp; omega))) | ((with_reducible refine (?_ : (_ : Int) < _)); (first | assumption | omega | (simp; done) | (simp only [ints_len] at *; omega) | (simp; omega))) | ((with_reducible refine (?_ : (_ : Nat) ≤ _)); (first | omega | (simp only [List.length_cons, List.length_nil]; omega) | (simp [ints]; done) | (simp; omega))) | ((with_reducible refine (?_ : (_ : Nat) < _)); (first | omega | (simp only [List.length_cons, List.length_nil]; omega) | (simp [ints]; done) | (simp; omega))) | ((with_reducible refine (?_ : (_ : Nat) = _)); (first | (with_reducible rfl) | (simp; done) | (simp only [fr_len]) | (simp only [ints_len]) | omega | (simp [*]; done))) | (refine And.intro ?_ ?_) | (intro h; first | (exact Bool.noConfusion h) | ((simp only [decide_eq_true_eq, decide_eq_false_iff_not, beq_iff_eq, bne_iff_ne, ne_eq, beq_eq_false_iff_ne, bne_eq_false_iff_eq, Bool.not_eq_true', Bool.not_eq_false', Bool.not_eq_true, Bool.not_eq_false, Int.not_le, Int.not_lt, Bool.and_eq_true, Bool.or_eq_true, Bool.or_eq_false_iff, Bool.and_eq_false_iff] at h); (try (exfalso; omega))) | skip) | ((refine (?_ : ACall _ _ _ _ _ _ _)); first | ((apply abox (b1)); (focus (exact rfl)); (focus (exact rfl)); (focus (exact rfl)); (focus (repeat' (first | exact rfl | (refine And.intro ?_ ?_) | (simp; done) | omega))); (focus (repeat' (first | exact trivial | exact rfl | (refine And.intro ?_ ?_))))) | ((apply abox (b2)); (focus (exact rfl)); (focus (exact rfl)); (focus (exact rfl)); (focus (repeat' (first | exact rfl | (refine And.intro ?_ ?_) | (simp; done) | omega))); (focus (repeat' (first | exact trivial | exact rfl | (refine And.intro ?_ ?_))))) | ((apply acall (spec_foMul _ _ _ _ _ _ _ _)); (focus (repeat' (first | exact rfl | (refine And.intro ?_ ?_) | (simp only [ints_len]; done) | (simp; done) | omega))))) | ((with_reducible refine (?_ : chk _ _ = true)); kernel_rfl) | ((with_reducible refine (?_ : (_ : IntKind) = _)); (with_reducible rfl)) | ((with_reducible refine (?_ : eqC (C.pvw _ _ _) (C.pvw _ _ _))); exact rfl) | ((with_reducible refine (?_ : eqC (C.pv (Value.int IntKind.u64 _)) _)); exact rfl) | exact trivial)
      refine ⟨(_, j + 1, (_, _, _, _), (_, _)), ?_, ?_, none, And.intro rfl (And.intro (by repeat' (first | exact trivial | exact rfl | (refine And.intro ?_ ?_))) (by repeat' (first | exact trivial | exact rfl | (refine And.intro ?_ ?_))))⟩
      · dsimp only
        rw [w1]
        exact ⟨by omega, by omega, by rw [hy, b4]; rfl⟩
      · dsimp only
        rw [w1]; omega
    · rw [if_neg (by omega), if_pos rfl] at b4
      repeat' (first | ((with_reducible refine (?_ : (_ : Bool) = _)); (with_reducible rfl)) | ((with_reducible refine (?_ : (_ : Nat × Nat) = _)); (with_reducible rfl)) | (with_reducible refine leafRI ?_) | (with_reducible refine leafRB ?_) | (with_reducible refine leafI ?_) | (with_reducible refine leafB ?_) | ((with_reducible refine (?_ : (_ : Int) = _)); (with_reducible rfl)) | ((with_reducible refine (?_ : (_ : List (List Value)) = _)); (with_reducible rfl)) | ((with_reducible refine (?_ : (_ : Int) ≠ 0)); (first | assumption | omega | (simp; done) | (simp only [ints_len] at *; omega) | (simp; omega))) | ((with_reducible refine (?_ : (_ : Int) ≤ _)); (first | assumption | omega | (simp; done) | (simp only [ints_len] at *; omega) | (simp; omega))) | ((with_reducible refine (?_ : (_ : Int) < _)); (first | assumption | omega | (simp; done) | (simp only [ints_len] at *; omega) | (simp; omega))) | ((with_reducible refine (?_ : (_ : Nat) ≤ _)); (first | omega | (simp only [List.length_cons, List.length_nil]; omega) | (simp [ints]; done) | (simp; omega))) | ((with_reducible refine (?_ : (_ : Nat) < _)); (first | omega | (simp only [List.length_cons, List.length_nil]; omega) | (simp [ints]; done) | (simp; omega))) | ((with_reducible refine (?_ : (_ : Nat) = _)); (first | (with_reducible rfl) | (simp; done) | (simp only [fr_len]) | (simp only [ints_len]) | omega | (simp [*]; done))) | (refine And.intro ?_ ?_) | (intro h; first | (exact Bool.noConfusion h) | ((simp only [decide_eq_true_eq, decide_eq_false_iff_not, beq_iff_eq, bne_iff_ne, ne_eq, beq_eq_false_iff_ne, bne_eq_false_iff_eq, Bool.not_eq_true', Bool.not_eq_false', Bool.not_eq_true, Bool.not_eq_false, Int.not_le, Int.not_lt, Bool.and_eq_true, Bool.or_eq_true, Bool.or_eq_false_iff, Bool.and_eq_false_iff] at h); (try (exfalso; omega))) | skip) | ((refine (?_ : ACall _ _ _ _ _ _ _)); first | ((apply abox (b1)); (focus (exact rfl)); (focus (exact rfl)); (focus (exact rfl)); (focus (repeat' (first | exact rfl | (refine And.intro ?_ ?_) | (simp; done) | omega))); (focus (repeat' (first | exact trivial | exact rfl | (refine And.intro ?_ ?_))))) | ((apply abox (b2)); (focus (exact rfl)); (focus (exact rfl)); (focus (exact rfl)); (focus (repeat' (first | exact rfl | (refine And.intro ?_ ?_) | (simp; done) | omega))); (focus (repeat' (first | exact trivial | exact rfl | (refine And.intro ?_ ?_))))) | ((apply acall (spec_foMul _ _ _ _ _ _ _ _)); (focus (repeat' (first | exact rfl | (refine And.intro ?_ ?_) | (simp only [ints_len]; done) | (simp; done) | omega))))) | ((with_reducible refine (?_ : chk _ _ = true)); kernel_rfl) | ((with_reducible refine (?_ : (_ : IntKind) = _)); (with_reducible rfl)) | ((with_reducible refine (?_ : eqC (C.pvw _ _ _) (C.pvw _ _ _))); exact rfl) | ((with_reducible refine (?_ : eqC (C.pv (Value.int IntKind.u64 _)) _)); exact rfl) | exact trivial)
      refine ⟨(_, j + 1, (_, _, _, _), (_, _)), ?_, ?_, none, And.intro rfl (And.intro (by repeat' (first | exact trivial | exact rfl | (refine And.intro ?_ ?_))) (by repeat' (first | exact trivial | exact rfl | (refine And.intro ?_ ?_))))⟩
      · dsimp only
        rw [w1]
        exact ⟨by omega, by omega, by rw [hy, b4]; rfl⟩
      · dsimp only
        rw [w1]; omega
    · rw [if_neg (by omega), if_neg (by omega)] at b4
      repeat' (first | ((with_reducible refine (?_ : (_ : Bool) = _)); (with_reducible rfl)) | ((with_reducible refine (?_ : (_ : Nat × Nat) = _)); (with_reducible rfl)) | (with_reducible refine leafRI ?_) | (with_reducible refine leafRB ?_) | (with_reducible refine leafI ?_) | (with_reducible refine leafB ?_) | ((with_reducible refine (?_ : (_ : Int) = _)); (with_reducible rfl)) | ((with_reducible refine (?_ : (_ : List (List Value)) = _)); (with_reducible rfl)) | ((with_reducible refine (?_ : (_ : Int) ≠ 0)); (first | assumption | omega | (simp; done) | (simp only [ints_len] at *; omega) | (simp; omega))) | ((with_reducible refine (?_ : (_ : Int) ≤ _)); (first | assumption | omega | (simp; done) | (simp only [ints_len] at *; omega) | (simp; omega))) | ((with_reducible refine (?_ : (_ : Int) < _)); (first | assumption | omega | (simp; done) | (simp only [ints_len] at *; omega) | (simp; omega))) | ((with_reducible refine (?_ : (_ : Nat) ≤ _)); (first | omega | (simp only [List.length_cons, List.length_nil]; omega) | (simp [ints]; done) | (simp; omega))) | ((with_reducible refine (?_ : (_ : Nat) < _)); (first | omega | (simp only [List.length_cons, List.length_nil]; omega) | (simp [ints]; done) | (simp; omega))) | ((with_reducible refine (?_ : (_ : Nat) = _)); (first | (with_reducible rfl) | (simp; done) | (simp only [fr_len]) | (simp only [ints_len]) | omega | (simp [*]; done))) | (refine And.intro ?_ ?_) | (intro h; first | (exact Bool.noConfusion h) | ((simp only [decide_eq_true_eq, decide_eq_false_iff_not, beq_iff_eq, bne_iff_ne, ne_eq, beq_eq_false_iff_ne, bne_eq_false_iff_eq, Bool.not_eq_true', Bool.not_eq_false', Bool.not_eq_true, Bool.not_eq_false, Int.not_le, Int.not_lt, Bool.and_eq_true, Bool.or_eq_true, Bool.or_eq_false_iff, Bool.and_eq_false_iff] at h); (try (exfalso; omega))) | skip) | ((refine (?_ : ACall _ _ _ _ _ _ _)); first | ((apply abox (b1)); (focus (exact rfl)); (focus (exact rfl)); (focus (exact rfl)); (focus (repeat' (first | exact rfl | (refine And.intro ?_ ?_) | (simp; done) | omega))); (focus (repeat' (first | exact trivial | exact rfl | (refine And.intro ?_ ?_))))) | ((apply abox (b2)); (focus (exact rfl)); (focus (exact rfl)); (focus (exact rfl)); (focus (repeat' (first | exact rfl | (refine And.intro ?_ ?_) | (simp; done) | omega))); (focus (repeat' (first | exact trivial | exact rfl | (refine And.intro ?_ ?_))))) | ((apply acall (spec_foMul _ _ _ _ _ _ _ _)); (focus (repeat' (first | exact rfl | (refine And.intro ?_ ?_) | (simp only [ints_len]; done) | (simp; done) | omega))))) | ((with_reducible refine (?_ : chk _ _ = true)); kernel_rfl) | ((with_reducible refine (?_ : (_ : IntKind) = _)); (with_reducible rfl)) | ((with_reducible refine (?_ : eqC (C.pvw _ _ _) (C.pvw _ _ _))); exact rfl) | ((with_reducible refine (?_ : eqC (C.pv (Value.int IntKind.u64 _)) _)); exact rfl) | exact trivial)
      refine ⟨(_, j + 1, (_, _, _, _), (_, _)), ?_, ?_, none, And.intro rfl (And.intro (by repeat' (first | exact trivial | exact rfl | (refine And.intro ?_ ?_))) (by repeat' (first | exact trivial | exact rfl | (refine And.intro ?_ ?_))))⟩
      · dsimp only
        rw [w1]
        exact ⟨by omega, by omega, by rw [hy, b4]; rfl⟩
      · dsimp only
        rw [w1]; omega
  · have hj : k.toNat = j := by omega
    rw [hj, ← g3]
    repeat' (first | ((with_reducible refine (?_ : (_ : Bool) = _)); (with_reducible rfl)) | ((with_reducible refine (?_ : (_ : Nat × Nat) = _)); (with_reducible rfl)) | (with_reducible refine leafRI ?_) | (with_reducible refine leafRB ?_) | (with_reducible refine leafI ?_) | (with_reducible refine leafB ?_) | ((with_reducible refine (?_ : (_ : Int) = _)); (with_reducible rfl)) | ((with_reducible refine (?_ : (_ : List (List Value)) = _)); (with_reducible rfl)) | ((with_reducible refine (?_ : (_ : Int) ≠ 0)); (first | assumption | omega | (simp; done) | (simp only [ints_len] at *; omega) | (simp; omega))) | ((with_reducible refine (?_ : (_ : Int) ≤ _)); (first | assumption | omega | (simp; done) | (simp only [ints_len] at *; omega) | (simp; omega))) | ((with_reducible refine (?_ : (_ : Int) < _)); (first | assumption | omega | (simp; done) | (simp only [ints_len] at *; omega) | (simp; omega))) | ((with_reducible refine (?_ : (_ : Nat) ≤ _)); (first | omega | (simp only [List.length_cons, List.length_nil]; omega) | (simp [ints]; done) | (simp; omega))) | ((with_reducible refine (?_ : (_ : Nat) < _)); (first | omega | (simp only [List.length_cons, List.length_nil]; omega) | (simp [ints]; done) | (simp; omega))) | ((with_reducible refine (?_ : (_ : Nat) = _)); (first | (with_reducible rfl) | (simp; done) | (simp only [fr_len]) | (simp only [ints_len]) | omega | (simp [*]; done))) | (refine And.intro ?_ ?_) | (intro h; first | (exact Bool.noConfusion h) | ((simp only [decide_eq_true_eq, decide_eq_false_iff_not, beq_iff_eq, bne_iff_ne, ne_eq, beq_eq_false_iff_ne, bne_eq_false_iff_eq, Bool.not_eq_true', Bool.not_eq_false', Bool.not_eq_true, Bool.not_eq_false, Int.not_le, Int.not_lt, Bool.and_eq_true, Bool.or_eq_true, Bool.or_eq_false_iff, Bool.and_eq_false_iff] at h); (try (exfalso; omega))) | skip) | ((with_reducible refine (?_ : chk _ _ = true)); kernel_rfl) | ((with_reducible refine (?_ : (_ : IntKind) = _)); (with_reducible rfl)) | ((with_reducible refine (?_ : eqC (C.pvw _ _ _) (C.pvw _ _ _))); exact rfl) | ((with_reducible refine (?_ : eqC (C.pv (Value.int IntKind.u64 _)) _)); exact rfl) | exact trivial)

/-! nodes -/
/-- Its coordinates are at most so great. -/
def Bd2 (B : Int) (p : P2) : Prop := -B ≤ p.1 ∧ p.1 ≤ B ∧ -B ≤ p.2 ∧ p.2 ≤ B
structure Bd6 (B : Int) (n : N6) : Prop where
  u : Bd2 B n.1
  v : Bd2 B n.2.1
  w : Bd2 B n.2.2
theorem Bd_mk {B : Int} {p q r : P2} (hp : Bd2 B p) (hq : Bd2 B q) (hr : Bd2 B r) : Bd6 B (mkN p q r) := by
  unfold mkN
  split
  · split
    · exact ⟨hp, hq, hr⟩
    · exact ⟨hp, hr, hq⟩
  · exact ⟨hr, hp, hq⟩
theorem Bd_spl {B : Int} {n : N6} (i : Int) (h : Bd6 B n) : Bd6 B (spl n i) := by
  obtain ⟨a, b, c⟩ := h
  unfold spl
  split
  · exact ⟨a, b, c⟩
  · split
    · exact ⟨b, a, c⟩
    · exact ⟨c, a, b⟩
theorem Bd_weak {B C : Int} {p : P2} (h : Bd2 B p) (hBC : B ≤ C) : Bd2 C p := by
  obtain ⟨h1, h2, h3, h4⟩ := h
  exact ⟨by omega, by omega, by omega, by omega⟩
theorem Bd_step {B : Int} {n : N6} (i : Int) (h : NG n) (hb : Bd6 B n) (h0 : 0 ≤ B) (h1 : 2 * B ≤ 1000000) : NG (nstp n i) ∧ Bd6 (2 * B) (nstp n i) := by
  have S := spl_SG i h
  obtain ⟨hu, hv, hw⟩ := Bd_spl i hb
  obtain ⟨⟨t, ht, z, hz, h2, _⟩, _⟩ := stR_NR S
  obtain ⟨a1, a2, a3, a4⟩ := hv
  obtain ⟨b1, b2, b3, b4⟩ := hw
  have hr : Bd2 (2 * B) (stR (spl n i)) := by
    rw [h2]
    rcases ht with rfl | rfl <;> rcases hz with rfl | rfl <;> exact ⟨by dsimp only; omega, by dsimp only; omega, by dsimp only; omega, by dsimp only; omega⟩
  obtain ⟨r1, r2, r3, r4⟩ := hr
  refine ⟨step_NG h ⟨by omega, by omega, by omega, by omega⟩, ?_⟩
  have e : nstp n i = mkN (spl n i).2.1 (spl n i).2.2 (stR (spl n i)) := rfl
  rw [e]
  exact Bd_mk (Bd_weak ⟨a1, a2, a3, a4⟩ (by omega)) (Bd_weak ⟨b1, b2, b3, b4⟩ (by omega)) ⟨r1, r2, r3, r4⟩

structure NoQ (v : Value) (l : List Int) (x y : N6 × Int × Int) : Prop where
  g : ndG x.1 = true
  ex : ∃ t, AFun Try.prog 16 [Cx v l x.2] [P0, I 3] (I t) [Cx v l y.2] [] ∧ y.1 = nstp x.1 (wrap64 (1 + t))
structure NoP (s : Int × Int) (j : Nat) (x : N6 × Int × Int) : Prop where
  lo : s.1 ≤ x.2.1
  hi : x.2.1 ≤ s.1 + 4 * j
  g : NG x.1
  b : Bd6 (2 ^ j : Nat) x.1

theorem spec_tpMakeR (a b c d e f : Int) (h : ltP (c, d) (a, b) = true) : AFun Try.prog 49 [] [Po2 a b, Po2 c d, Po2 e f] (Nd (mkN (c, d) (a, b) (e, f))) [] [] := by
  have hv := spec_vaPut2 c d a b e f h
  have hsw : insP (c, d) [(a, b)] = insP (a, b) [(c, d)] := by
    have h' := ltP_irr h
    simp [insP, h, h']
  generalize mkN (c, d) (a, b) (e, f) = m at *
  refine afun_intro fn49 rfl rfl (by repeat' (first | exact trivial | (simp; done) | refine ⟨?_, ?_⟩)) ?_
  unfold ac49
  repeat' (first | ((with_reducible refine (?_ : (_ : Bool) = _)); (with_reducible rfl)) | ((with_reducible refine (?_ : (_ : Nat × Nat) = _)); (with_reducible rfl)) | (with_reducible refine leafRI ?_) | (with_reducible refine leafRB ?_) | (with_reducible refine leafI ?_) | (with_reducible refine leafB ?_) | ((with_reducible refine (?_ : (_ : Int) = _)); (with_reducible rfl)) | ((with_reducible refine (?_ : (_ : List (List Value)) = _)); (with_reducible rfl)) | ((with_reducible refine (?_ : (_ : Int) ≠ 0)); (first | assumption | omega | (simp; done) | (simp only [ints_len] at *; omega) | (simp; omega))) | ((with_reducible refine (?_ : (_ : Int) ≤ _)); (first | assumption | omega | (simp; done) | (simp only [ints_len] at *; omega) | (simp; omega))) | ((with_reducible refine (?_ : (_ : Int) < _)); (first | assumption | omega | (simp; done) | (simp only [ints_len] at *; omega) | (simp; omega))) | ((with_reducible refine (?_ : (_ : Nat) ≤ _)); (first | omega | (simp only [List.length_cons, List.length_nil]; omega) | (simp [ints]; done) | (simp; omega))) | ((with_reducible refine (?_ : (_ : Nat) < _)); (first | omega | (simp only [List.length_cons, List.length_nil]; omega) | (simp [ints]; done) | (simp; omega))) | ((with_reducible refine (?_ : (_ : Nat) = _)); (first | (with_reducible rfl) | (simp; done) | (simp only [fr_len]) | (simp only [ints_len]) | omega | (simp [*]; done))) | (refine And.intro ?_ ?_) | (intro h; first | (exact Bool.noConfusion h) | ((simp only [decide_eq_true_eq, decide_eq_false_iff_not, beq_iff_eq, bne_iff_ne, ne_eq, beq_eq_false_iff_ne, bne_eq_false_iff_eq, Bool.not_eq_true', Bool.not_eq_false', Bool.not_eq_true, Bool.not_eq_false, Int.not_le, Int.not_lt, Bool.and_eq_true, Bool.or_eq_true, Bool.or_eq_false_iff, Bool.and_eq_false_iff] at h); (try (first | (exact Bool.noConfusion h) | (exact (h trivial).elim)))) | skip) | ((with_reducible refine (?_ : chk _ _ = true)); kernel_rfl) | ((with_reducible refine (?_ : (_ : IntKind) = _)); (with_reducible rfl)) | ((with_reducible refine (?_ : eqC (C.pvw _ _ _) (C.pvw _ _ _))); exact rfl) | ((with_reducible refine (?_ : eqC (C.pv (Value.int IntKind.u64 _)) _)); exact rfl) | exact trivial)
  refine (?_ : ACall _ _ _ _ _ _ _)
  have h1 := spec_vaPut1 a b c d
  rw [hsw] at h1
  apply acall h1
  · repeat' (first | exact rfl | (refine And.intro ?_ ?_))
  repeat' (first | ((with_reducible refine (?_ : (_ : Bool) = _)); (with_reducible rfl)) | ((with_reducible refine (?_ : (_ : Nat × Nat) = _)); (with_reducible rfl)) | (with_reducible refine leafRI ?_) | (with_reducible refine leafRB ?_) | (with_reducible refine leafI ?_) | (with_reducible refine leafB ?_) | ((with_reducible refine (?_ : (_ : Int) = _)); (with_reducible rfl)) | ((with_reducible refine (?_ : (_ : List (List Value)) = _)); (with_reducible rfl)) | ((with_reducible refine (?_ : (_ : Int) ≠ 0)); (first | assumption | omega | (simp; done) | (simp only [ints_len] at *; omega) | (simp; omega))) | ((with_reducible refine (?_ : (_ : Int) ≤ _)); (first | assumption | omega | (simp; done) | (simp only [ints_len] at *; omega) | (simp; omega))) | ((with_reducible refine (?_ : (_ : Int) < _)); (first | assumption | omega | (simp; done) | (simp only [ints_len] at *; omega) | (simp; omega))) | ((with_reducible refine (?_ : (_ : Nat) ≤ _)); (first | omega | (simp only [List.length_cons, List.length_nil]; omega) | (simp [ints]; done) | (simp; omega))) | ((with_reducible refine (?_ : (_ : Nat) < _)); (first | omega | (simp only [List.length_cons, List.length_nil]; omega) | (simp [ints]; done) | (simp; omega))) | ((with_reducible refine (?_ : (_ : Nat) = _)); (first | (with_reducible rfl) | (simp; done) | (simp only [fr_len]) | (simp only [ints_len]) | omega | (simp [*]; done))) | (refine And.intro ?_ ?_) | (intro h; first | (exact Bool.noConfusion h) | ((simp only [decide_eq_true_eq, decide_eq_false_iff_not, beq_iff_eq, bne_iff_ne, ne_eq, beq_eq_false_iff_ne, bne_eq_false_iff_eq, Bool.not_eq_true', Bool.not_eq_false', Bool.not_eq_true, Bool.not_eq_false, Int.not_le, Int.not_lt, Bool.and_eq_true, Bool.or_eq_true, Bool.or_eq_false_iff, Bool.and_eq_false_iff] at h); (try (first | (exact Bool.noConfusion h) | (exact (h trivial).elim)))) | skip) | ((with_reducible refine (?_ : chk _ _ = true)); kernel_rfl) | ((with_reducible refine (?_ : (_ : IntKind) = _)); (with_reducible rfl)) | ((with_reducible refine (?_ : eqC (C.pvw _ _ _) (C.pvw _ _ _))); exact rfl) | ((with_reducible refine (?_ : eqC (C.pv (Value.int IntKind.u64 _)) _)); exact rfl) | exact trivial)
  refine (?_ : ACall _ _ _ _ _ _ _)
  apply acall hv
  · repeat' (first | exact rfl | (refine And.intro ?_ ?_) | (rw [pts_len]; done))
  repeat' (first | ((with_reducible refine (?_ : (_ : Bool) = _)); (with_reducible rfl)) | ((with_reducible refine (?_ : (_ : Nat × Nat) = _)); (with_reducible rfl)) | (with_reducible refine leafRI ?_) | (with_reducible refine leafRB ?_) | (with_reducible refine leafI ?_) | (with_reducible refine leafB ?_) | ((with_reducible refine (?_ : (_ : Int) = _)); (with_reducible rfl)) | ((with_reducible refine (?_ : (_ : List (List Value)) = _)); (with_reducible rfl)) | ((with_reducible refine (?_ : (_ : Int) ≠ 0)); (first | assumption | omega | (simp; done) | (simp only [ints_len] at *; omega) | (simp; omega))) | ((with_reducible refine (?_ : (_ : Int) ≤ _)); (first | assumption | omega | (simp; done) | (simp only [ints_len] at *; omega) | (simp; omega))) | ((with_reducible refine (?_ : (_ : Int) < _)); (first | assumption | omega | (simp; done) | (simp only [ints_len] at *; omega) | (simp; omega))) | ((with_reducible refine (?_ : (_ : Nat) ≤ _)); (first | omega | (simp only [List.length_cons, List.length_nil]; omega) | (simp [ints]; done) | (simp; omega))) | ((with_reducible refine (?_ : (_ : Nat) < _)); (first | omega | (simp only [List.length_cons, List.length_nil]; omega) | (simp [ints]; done) | (simp; omega))) | ((with_reducible refine (?_ : (_ : Nat) = _)); (first | (with_reducible rfl) | (simp; done) | (simp only [fr_len]) | (simp only [ints_len]) | omega | (simp [*]; done))) | (refine And.intro ?_ ?_) | (intro h; first | (exact Bool.noConfusion h) | ((simp only [decide_eq_true_eq, decide_eq_false_iff_not, beq_iff_eq, bne_iff_ne, ne_eq, beq_eq_false_iff_ne, bne_eq_false_iff_eq, Bool.not_eq_true', Bool.not_eq_false', Bool.not_eq_true, Bool.not_eq_false, Int.not_le, Int.not_lt, Bool.and_eq_true, Bool.or_eq_true, Bool.or_eq_false_iff, Bool.and_eq_false_iff] at h); (try (first | (exact Bool.noConfusion h) | (exact (h trivial).elim)))) | skip) | ((with_reducible refine (?_ : chk _ _ = true)); kernel_rfl) | ((with_reducible refine (?_ : (_ : IntKind) = _)); (with_reducible rfl)) | ((with_reducible refine (?_ : eqC (C.pvw _ _ _) (C.pvw _ _ _))); exact rfl) | ((with_reducible refine (?_ : eqC (C.pv (Value.int IntKind.u64 _)) _)); exact rfl) | exact trivial)
  refine ⟨_, rfl, ?_⟩
  repeat' (first | ((with_reducible refine (?_ : (_ : Bool) = _)); (with_reducible rfl)) | ((with_reducible refine (?_ : (_ : Nat × Nat) = _)); (with_reducible rfl)) | (with_reducible refine leafRI ?_) | (with_reducible refine leafRB ?_) | (with_reducible refine leafI ?_) | (with_reducible refine leafB ?_) | ((with_reducible refine (?_ : (_ : Int) = _)); (with_reducible rfl)) | ((with_reducible refine (?_ : (_ : List (List Value)) = _)); (with_reducible rfl)) | ((with_reducible refine (?_ : (_ : Int) ≠ 0)); (first | assumption | omega | (simp; done) | (simp only [ints_len] at *; omega) | (simp; omega))) | ((with_reducible refine (?_ : (_ : Int) ≤ _)); (first | assumption | omega | (simp; done) | (simp only [ints_len] at *; omega) | (simp; omega))) | ((with_reducible refine (?_ : (_ : Int) < _)); (first | assumption | omega | (simp; done) | (simp only [ints_len] at *; omega) | (simp; omega))) | ((with_reducible refine (?_ : (_ : Nat) ≤ _)); (first | omega | (simp only [List.length_cons, List.length_nil]; omega) | (simp [ints]; done) | (simp; omega))) | ((with_reducible refine (?_ : (_ : Nat) < _)); (first | omega | (simp only [List.length_cons, List.length_nil]; omega) | (simp [ints]; done) | (simp; omega))) | ((with_reducible refine (?_ : (_ : Nat) = _)); (first | (with_reducible rfl) | (simp; done) | (simp only [fr_len]) | (simp only [ints_len]) | omega | (simp [*]; done))) | (refine And.intro ?_ ?_) | (intro h; first | (exact Bool.noConfusion h) | ((simp only [decide_eq_true_eq, decide_eq_false_iff_not, beq_iff_eq, bne_iff_ne, ne_eq, beq_eq_false_iff_ne, bne_eq_false_iff_eq, Bool.not_eq_true', Bool.not_eq_false', Bool.not_eq_true, Bool.not_eq_false, Int.not_le, Int.not_lt, Bool.and_eq_true, Bool.or_eq_true, Bool.or_eq_false_iff, Bool.and_eq_false_iff] at h); (try (first | (exact Bool.noConfusion h) | (exact (h trivial).elim)))) | skip) | ((with_reducible refine (?_ : chk _ _ = true)); kernel_rfl) | ((with_reducible refine (?_ : (_ : IntKind) = _)); (with_reducible rfl)) | ((with_reducible refine (?_ : eqC (C.pvw _ _ _) (C.pvw _ _ _))); exact rfl) | ((with_reducible refine (?_ : eqC (C.pv (Value.int IntKind.u64 _)) _)); exact rfl) | exact trivial)
  refine ⟨_, rfl, ?_⟩
  repeat' (first | ((with_reducible refine (?_ : (_ : Bool) = _)); (with_reducible rfl)) | ((with_reducible refine (?_ : (_ : Nat × Nat) = _)); (with_reducible rfl)) | (with_reducible refine leafRI ?_) | (with_reducible refine leafRB ?_) | (with_reducible refine leafI ?_) | (with_reducible refine leafB ?_) | ((with_reducible refine (?_ : (_ : Int) = _)); (with_reducible rfl)) | ((with_reducible refine (?_ : (_ : List (List Value)) = _)); (with_reducible rfl)) | ((with_reducible refine (?_ : (_ : Int) ≠ 0)); (first | assumption | omega | (simp; done) | (simp only [ints_len] at *; omega) | (simp; omega))) | ((with_reducible refine (?_ : (_ : Int) ≤ _)); (first | assumption | omega | (simp; done) | (simp only [ints_len] at *; omega) | (simp; omega))) | ((with_reducible refine (?_ : (_ : Int) < _)); (first | assumption | omega | (simp; done) | (simp only [ints_len] at *; omega) | (simp; omega))) | ((with_reducible refine (?_ : (_ : Nat) ≤ _)); (first | omega | (simp only [List.length_cons, List.length_nil]; omega) | (simp [ints]; done) | (simp; omega))) | ((with_reducible refine (?_ : (_ : Nat) < _)); (first | omega | (simp only [List.length_cons, List.length_nil]; omega) | (simp [ints]; done) | (simp; omega))) | ((with_reducible refine (?_ : (_ : Nat) = _)); (first | (with_reducible rfl) | (simp; done) | (simp only [fr_len]) | (simp only [ints_len]) | omega | (simp [*]; done))) | (refine And.intro ?_ ?_) | (intro h; first | (exact Bool.noConfusion h) | ((simp only [decide_eq_true_eq, decide_eq_false_iff_not, beq_iff_eq, bne_iff_ne, ne_eq, beq_eq_false_iff_ne, bne_eq_false_iff_eq, Bool.not_eq_true', Bool.not_eq_false', Bool.not_eq_true, Bool.not_eq_false, Int.not_le, Int.not_lt, Bool.and_eq_true, Bool.or_eq_true, Bool.or_eq_false_iff, Bool.and_eq_false_iff] at h); (try (first | (exact Bool.noConfusion h) | (exact (h trivial).elim)))) | skip) | ((with_reducible refine (?_ : chk _ _ = true)); kernel_rfl) | ((with_reducible refine (?_ : (_ : IntKind) = _)); (with_reducible rfl)) | ((with_reducible refine (?_ : eqC (C.pvw _ _ _) (C.pvw _ _ _))); exact rfl) | ((with_reducible refine (?_ : eqC (C.pv (Value.int IntKind.u64 _)) _)); exact rfl) | exact trivial)
  refine ⟨_, rfl, ?_⟩
  repeat' (first | ((with_reducible refine (?_ : (_ : Bool) = _)); (with_reducible rfl)) | ((with_reducible refine (?_ : (_ : Nat × Nat) = _)); (with_reducible rfl)) | (with_reducible refine leafRI ?_) | (with_reducible refine leafRB ?_) | (with_reducible refine leafI ?_) | (with_reducible refine leafB ?_) | ((with_reducible refine (?_ : (_ : Int) = _)); (with_reducible rfl)) | ((with_reducible refine (?_ : (_ : List (List Value)) = _)); (with_reducible rfl)) | ((with_reducible refine (?_ : (_ : Int) ≠ 0)); (first | assumption | omega | (simp; done) | (simp only [ints_len] at *; omega) | (simp; omega))) | ((with_reducible refine (?_ : (_ : Int) ≤ _)); (first | assumption | omega | (simp; done) | (simp only [ints_len] at *; omega) | (simp; omega))) | ((with_reducible refine (?_ : (_ : Int) < _)); (first | assumption | omega | (simp; done) | (simp only [ints_len] at *; omega) | (simp; omega))) | ((with_reducible refine (?_ : (_ : Nat) ≤ _)); (first | omega | (simp only [List.length_cons, List.length_nil]; omega) | (simp [ints]; done) | (simp; omega))) | ((with_reducible refine (?_ : (_ : Nat) < _)); (first | omega | (simp only [List.length_cons, List.length_nil]; omega) | (simp [ints]; done) | (simp; omega))) | ((with_reducible refine (?_ : (_ : Nat) = _)); (first | (with_reducible rfl) | (simp; done) | (simp only [fr_len]) | (simp only [ints_len]) | omega | (simp [*]; done))) | (refine And.intro ?_ ?_) | (intro h; first | (exact Bool.noConfusion h) | ((simp only [decide_eq_true_eq, decide_eq_false_iff_not, beq_iff_eq, bne_iff_ne, ne_eq, beq_eq_false_iff_ne, bne_eq_false_iff_eq, Bool.not_eq_true', Bool.not_eq_false', Bool.not_eq_true, Bool.not_eq_false, Int.not_le, Int.not_lt, Bool.and_eq_true, Bool.or_eq_true, Bool.or_eq_false_iff, Bool.and_eq_false_iff] at h); (try (first | (exact Bool.noConfusion h) | (exact (h trivial).elim)))) | skip) | ((with_reducible refine (?_ : chk _ _ = true)); kernel_rfl) | ((with_reducible refine (?_ : (_ : IntKind) = _)); (with_reducible rfl)) | ((with_reducible refine (?_ : eqC (C.pvw _ _ _) (C.pvw _ _ _))); exact rfl) | ((with_reducible refine (?_ : eqC (C.pv (Value.int IntKind.u64 _)) _)); exact rfl) | exact trivial)

end Go.Proofs.Ytemlkfcbcphenaa

/-! Drawn inputs: nodes; what the laws on paths draw. -/
namespace Go.Proofs.Ytemlkfcbcphenaa
open Go.RowKit
set_option linter.unusedSimpArgs false
set_option linter.unusedVariables false
set_option maxRecDepth 100000

theorem rt6_Bd : Bd6 ((2 ^ 0 : Nat) : Int) rt6 := ⟨⟨by decide, by decide, by decide, by decide⟩, ⟨by decide, by decide, by decide, by decide⟩, ⟨by decide, by decide, by decide, by decide⟩⟩

theorem node_ex (v : Value) (l : List Int) (hl : BysOk l) (s : Int × Int) (hs : Cv 1500000000000 s) : ∃ (n : N6) (s' : Int × Int), (s.1 ≤ s'.1 ∧ s'.1 ≤ s.1 + 80) ∧ AFun Try.prog 28 [Cx v l s] [P0] (Nd n) [Cx v l s'] [] := by
  obtain ⟨k, s0, a1, a2, a3⟩ := pick_ex v l hl 8 (by omega) s ⟨hs.1, by have := hs.2; omega⟩
  have c1 := cv_next hs a2 (K := 1500000000002) (by omega)
  obtain ⟨f, f0, hf⟩ := chainN (α := N6 × Int × Int) 9 (NoP s0) (NoQ v l) (fun j x hj hP => by
    obtain ⟨t, s1, b1, b2, b3⟩ := pick_ex v l hl 3 (by omega) x.2 ⟨by have := hP.lo; have := c1.1; omega, by have := hP.hi; have := c1.2; omega⟩
    have hB : ((2 ^ j : Nat) : Int) ≤ 512 := by
      have := Nat.pow_le_pow_right (show 0 < 2 by omega) (show j ≤ 9 by omega)
      omega
    have hB0 : (0 : Int) ≤ ((2 ^ j : Nat) : Int) := Int.natCast_nonneg _
    obtain ⟨h1, h2⟩ := Bd_step (wrap64 (1 + t)) hP.g hP.b hB0 (by omega)
    refine ⟨(nstp x.1 (wrap64 (1 + t)), s1), ⟨ndG_iff.2 hP.g, t, b3, rfl⟩, ⟨by have := hP.lo; dsimp only; omega, by have := hP.hi; dsimp only; omega, h1, ?_⟩⟩
    have e : ((2 ^ (j + 1) : Nat) : Int) = 2 * ((2 ^ j : Nat) : Int) := by rw [Nat.pow_succ]; omega
    rw [e]
    exact h2) (rt6, s0) ⟨by dsimp only; omega, by dsimp only; omega, rt6_NG, rt6_Bd⟩
  have hk := (hf k.toNat).1 (by omega)
  have hf2 : ∀ j : Nat, j < 9 → NoQ v l (f j) (f (j + 1)) := fun j hj => (hf j).2 hj
  clear hf
  -- where the cursor stands behind the loop
  have c2 : Cv 1500000000040 (f k.toNat).2 := ⟨by have := hk.lo; have := c1.1; omega, by have := hk.hi; have := c1.2; omega⟩
  have lo2 := hk.lo
  have hi2 := hk.hi
  clear hk
  obtain ⟨t, s1, b1, b2, b3⟩ := pick_ex v l hl 14 (by omega) (f k.toNat).2 ⟨c2.1, by have := c2.2; omega⟩
  have c3 := cv_next c2 b2 (K := 1500000000042) (by omega)
  obtain ⟨px, py, s2, p1, p2, p3, p4⟩ := plain_ex v l hl s1 ⟨c3.1, by have := c3.2; omega⟩
  obtain ⟨y1, s3, d1, d2, d3⟩ := among_ex v l hl [999999, 1000000, -1000000] (by simp) (by simp) s1 ⟨c3.1, by have := c3.2; omega⟩
  have c4 := cv_next c3 d2 (K := 1500000000044) (by omega)
  obtain ⟨y2, s4, e1, e2, e3⟩ := among_ex v l hl [1000000, 999999, -999999] (by simp) (by simp) s3 ⟨c4.1, by have := c4.2; omega⟩
  have hmk := spec_tpMakeR 1 y1 0 1 1 y2 (by simp [ltP])
  generalize hfk : f k.toNat = z at *
  obtain ⟨⟨⟨n0, n1⟩, ⟨n2, n3⟩, ⟨n4, n5⟩⟩, ⟨sc, sd⟩⟩ := z
  dsimp only at lo2 hi2
  -- the loop, whatever follows
  have cases : t = 0 ∨ t = 1 ∨ t = 2 ∨ t = 3 ∨ 4 ≤ t := by omega
  rcases cases with ht | ht | ht | ht | ht
  · refine ⟨((n0, n1), (px, py), (n4, n5)), s2, ⟨by dsimp only at *; omega, by dsimp only at *; omega⟩, ?_⟩
    refine afun_intro fn28 rfl rfl (by repeat' (first | exact trivial | (simp; done) | refine ⟨?_, ?_⟩)) ?_
    unfold ac28
    repeat' (first | ((with_reducible refine (?_ : (_ : Bool) = _)); (with_reducible rfl)) | ((with_reducible refine (?_ : (_ : Nat × Nat) = _)); (with_reducible rfl)) | (with_reducible refine leafRI ?_) | (with_reducible refine leafRB ?_) | (with_reducible refine leafI ?_) | (with_reducible refine leafB ?_) | ((with_reducible refine (?_ : (_ : Int) = _)); (with_reducible rfl)) | ((with_reducible refine (?_ : (_ : List (List Value)) = _)); (with_reducible rfl)) | ((with_reducible refine (?_ : (_ : Int) ≠ 0)); (first | assumption | omega | (simp; done) | (simp only [ints_len] at *; omega) | (simp; omega))) | ((with_reducible refine (?_ : (_ : Int) ≤ _)); (first | assumption | omega | (simp; done) | (simp only [ints_len] at *; omega) | (simp; omega))) | ((with_reducible refine (?_ : (_ : Int) < _)); (first | assumption | omega | (simp; done) | (simp only [ints_len] at *; omega) | (simp; omega))) | ((with_reducible refine (?_ : (_ : Nat) ≤ _)); (first | omega | (simp only [List.length_cons, List.length_nil]; omega) | (simp [ints]; done) | (simp; omega))) | ((with_reducible refine (?_ : (_ : Nat) < _)); (first | omega | (simp only [List.length_cons, List.length_nil]; omega) | (simp [ints]; done) | (simp; omega))) | ((with_reducible refine (?_ : (_ : Nat) = _)); (first | (with_reducible rfl) | (simp; done) | (simp only [fr_len]) | (simp only [ints_len]) | omega | (simp [*]; done))) | (refine And.intro ?_ ?_) | (intro h; first | (exact Bool.noConfusion h) | ((simp only [decide_eq_true_eq, decide_eq_false_iff_not, beq_iff_eq, bne_iff_ne, ne_eq, beq_eq_false_iff_ne, bne_eq_false_iff_eq, Bool.not_eq_true', Bool.not_eq_false', Bool.not_eq_true, Bool.not_eq_false, Int.not_le, Int.not_lt, Bool.and_eq_true, Bool.or_eq_true, Bool.or_eq_false_iff, Bool.and_eq_false_iff] at h); (try (first | (exact Bool.noConfusion h) | (exact (h trivial).elim)))) | skip) | ((refine (?_ : ACall _ _ _ _ _ _ _)); first | ((apply abox (a3)); (focus (exact rfl)); (focus (exact rfl)); (focus (exact rfl)); (focus (repeat' (first | exact rfl | (refine And.intro ?_ ?_) | (simp; done) | omega))); (focus (repeat' (first | exact trivial | exact rfl | (refine And.intro ?_ ?_))))) | ((apply acall (spec_tpRootP)); (focus (repeat' (first | exact rfl | (refine And.intro ?_ ?_) | (simp only [ints_len]; done) | (simp; done) | omega)))) | ((apply acall (spec_tpRoot)); (focus (repeat' (first | exact rfl | (refine And.intro ?_ ?_) | (simp only [ints_len]; done) | (simp; done) | omega))))) | ((with_reducible refine (?_ : chk _ _ = true)); kernel_rfl) | ((with_reducible refine (?_ : (_ : IntKind) = _)); (with_reducible rfl)) | ((with_reducible refine (?_ : eqC (C.pvw _ _ _) (C.pvw _ _ _))); exact rfl) | ((with_reducible refine (?_ : eqC (C.pv (Value.int IntKind.u64 _)) _)); exact rfl) | exact trivial)
    refine loop_rule (σ := Int × Nat × ((Int × Int) × (Int × Int) × (Int × Int)) × (Int × Int)) (fun s => [(4, I s.1)]) (fun s => [((0, 0), Cx v l s.2.2.2), ((2, 0), .bx [cI 0, cI 0, cI 0, cI 0, cI 0, cI 0]), ((3, 0), .bx [cI s.2.2.1.1.1, cI s.2.2.1.1.2, cI s.2.2.1.2.1.1, cI s.2.2.1.2.1.2, cI s.2.2.1.2.2.1, cI s.2.2.1.2.2.2])]) (fun s => 0 ≤ s.1 ∧ s.1 + s.2.1 = k ∧ (s.2.2.1, s.2.2.2) = f s.2.1) (fun s => s.1.toNat) ((k, 0, rt6, s0)) ?_ (by repeat' (first | exact trivial | exact rfl | (refine And.intro ?_ ?_))) (by repeat' (first | exact trivial | exact rfl | (refine And.intro ?_ ?_))) (fun s => ⟨rfl, rfl⟩) (fun s i h => by first | exact absurd h (Nat.not_lt_zero i) | (cases i with | zero => rfl | succ i => exact absurd (Nat.lt_of_succ_lt_succ h) (Nat.not_lt_zero i))) ?_
    · exact ⟨by dsimp only; omega, by dsimp only; omega, f0.symm⟩
    rintro ⟨i, j, ⟨⟨m0, m1⟩, ⟨m2, m3⟩, ⟨m4, m5⟩⟩, ⟨c, cd⟩⟩ ⟨g1, g2, g3⟩
    dsimp only at g1 g2 g3 ⊢
    have w1 : wrap64 (i - 1) = i - 1 := wrap_small (by omega) (by omega)
    by_cases hi : 0 < i
    · obtain ⟨hg, u, q1, q2⟩ := hf2 j (by omega)
      rw [← g3] at hg q1 q2
      dsimp only at hg q1 q2
      have hst := spec_tpStep m0 m1 m2 m3 m4 m5 (wrap64 (1 + u)) hg
      rw [← q2] at hst
      generalize hy : f (j + 1) = y at *
      obtain ⟨⟨⟨x0, x1⟩, ⟨x2, x3⟩, ⟨x4, x5⟩⟩, ⟨yc, yd⟩⟩ := y
      dsimp only at q1 q2 hst
      repeat' (first | ((with_reducible refine (?_ : (_ : Bool) = _)); (with_reducible rfl)) | ((with_reducible refine (?_ : (_ : Nat × Nat) = _)); (with_reducible rfl)) | (with_reducible refine leafRI ?_) | (with_reducible refine leafRB ?_) | (with_reducible refine leafI ?_) | (with_reducible refine leafB ?_) | ((with_reducible refine (?_ : (_ : Int) = _)); (with_reducible rfl)) | ((with_reducible refine (?_ : (_ : List (List Value)) = _)); (with_reducible rfl)) | ((with_reducible refine (?_ : (_ : Int) ≠ 0)); (first | assumption | omega | (simp; done) | (simp only [ints_len] at *; omega) | (simp; omega))) | ((with_reducible refine (?_ : (_ : Int) ≤ _)); (first | assumption | omega | (simp; done) | (simp only [ints_len] at *; omega) | (simp; omega))) | ((with_reducible refine (?_ : (_ : Int) < _)); (first | assumption | omega | (simp; done) | (simp only [ints_len] at *; omega) | (simp; omega))) | ((with_reducible refine (?_ : (_ : Nat) ≤ _)); (first | omega | (simp only [List.length_cons, List.length_nil]; omega) | (simp [ints]; done) | (simp; omega))) | ((with_reducible refine (?_ : (_ : Nat) < _)); (first | omega | (simp only [List.length_cons, List.length_nil]; omega) | (simp [ints]; done) | (simp; omega))) | ((with_reducible refine (?_ : (_ : Nat) = _)); (first | (with_reducible rfl) | (simp; done) | (simp only [fr_len]) | (simp only [ints_len]) | omega | (simp [*]; done))) | (refine And.intro ?_ ?_) | (intro h; first | (exact Bool.noConfusion h) | ((simp only [decide_eq_true_eq, decide_eq_false_iff_not, beq_iff_eq, bne_iff_ne, ne_eq, beq_eq_false_iff_ne, bne_eq_false_iff_eq, Bool.not_eq_true', Bool.not_eq_false', Bool.not_eq_true, Bool.not_eq_false, Int.not_le, Int.not_lt, Bool.and_eq_true, Bool.or_eq_true, Bool.or_eq_false_iff, Bool.and_eq_false_iff] at h); (try (exfalso; omega))) | skip) | ((refine (?_ : ACall _ _ _ _ _ _ _)); first | ((apply abox (q1)); (focus (exact rfl)); (focus (exact rfl)); (focus (exact rfl)); (focus (repeat' (first | exact rfl | (refine And.intro ?_ ?_) | (simp; done) | omega))); (focus (repeat' (first | exact trivial | exact rfl | (refine And.intro ?_ ?_))))) | ((apply acall (hst)); (focus (repeat' (first | exact rfl | (refine And.intro ?_ ?_) | (simp only [ints_len]; done) | (simp; done) | omega))))) | ((with_reducible refine (?_ : chk _ _ = true)); kernel_rfl) | ((with_reducible refine (?_ : (_ : IntKind) = _)); (with_reducible rfl)) | ((with_reducible refine (?_ : eqC (C.pvw _ _ _) (C.pvw _ _ _))); exact rfl) | ((with_reducible refine (?_ : eqC (C.pv (Value.int IntKind.u64 _)) _)); exact rfl) | exact trivial)
      refine ⟨(_, j + 1, ((_, _), (_, _), (_, _)), (_, _)), ?_, ?_, none, And.intro rfl (And.intro (by repeat' (first | exact trivial | exact rfl | (refine And.intro ?_ ?_))) (by repeat' (first | exact trivial | exact rfl | (refine And.intro ?_ ?_))))⟩
      · dsimp only
        rw [w1]
        exact ⟨by omega, by omega, hy.symm⟩
      · dsimp only
        rw [w1]; omega
    · have hj : k.toNat = j := by omega
      rw [hj, ← g3] at hfk
      simp only [Prod.mk.injEq] at hfk
      obtain ⟨⟨⟨rfl, rfl⟩, ⟨rfl, rfl⟩, ⟨rfl, rfl⟩⟩, rfl, rfl⟩ := hfk
      repeat' (first | ((with_reducible refine (?_ : (_ : Bool) = _)); (with_reducible rfl)) | ((with_reducible refine (?_ : (_ : Nat × Nat) = _)); (with_reducible rfl)) | (with_reducible refine leafRI ?_) | (with_reducible refine leafRB ?_) | (with_reducible refine leafI ?_) | (with_reducible refine leafB ?_) | ((with_reducible refine (?_ : (_ : Int) = _)); (with_reducible rfl)) | ((with_reducible refine (?_ : (_ : List (List Value)) = _)); (with_reducible rfl)) | ((with_reducible refine (?_ : (_ : Int) ≠ 0)); (first | assumption | omega | (simp; done) | (simp only [ints_len] at *; omega) | (simp; omega))) | ((with_reducible refine (?_ : (_ : Int) ≤ _)); (first | assumption | omega | (simp; done) | (simp only [ints_len] at *; omega) | (simp; omega))) | ((with_reducible refine (?_ : (_ : Int) < _)); (first | assumption | omega | (simp; done) | (simp only [ints_len] at *; omega) | (simp; omega))) | ((with_reducible refine (?_ : (_ : Nat) ≤ _)); (first | omega | (simp only [List.length_cons, List.length_nil]; omega) | (simp [ints]; done) | (simp; omega))) | ((with_reducible refine (?_ : (_ : Nat) < _)); (first | omega | (simp only [List.length_cons, List.length_nil]; omega) | (simp [ints]; done) | (simp; omega))) | ((with_reducible refine (?_ : (_ : Nat) = _)); (first | (with_reducible rfl) | (simp; done) | (simp only [fr_len]) | (simp only [ints_len]) | omega | (simp [*]; done))) | (refine And.intro ?_ ?_) | (intro h; first | (exact Bool.noConfusion h) | ((simp only [decide_eq_true_eq, decide_eq_false_iff_not, beq_iff_eq, bne_iff_ne, ne_eq, beq_eq_false_iff_ne, bne_eq_false_iff_eq, Bool.not_eq_true', Bool.not_eq_false', Bool.not_eq_true, Bool.not_eq_false, Int.not_le, Int.not_lt, Bool.and_eq_true, Bool.or_eq_true, Bool.or_eq_false_iff, Bool.and_eq_false_iff] at h); (try (exfalso; omega))) | skip) | ((refine (?_ : ACall _ _ _ _ _ _ _)); first | ((apply abox (b3)); (focus (exact rfl)); (focus (exact rfl)); (focus (exact rfl)); (focus (repeat' (first | exact rfl | (refine And.intro ?_ ?_) | (simp; done) | omega))); (focus (repeat' (first | exact trivial | exact rfl | (refine And.intro ?_ ?_))))) | ((apply abox (p4)); (focus (exact rfl)); (focus (exact rfl)); (focus (exact rfl)); (focus (repeat' (first | exact rfl | (refine And.intro ?_ ?_) | (simp; done) | omega))); (focus (repeat' (first | exact trivial | exact rfl | (refine And.intro ?_ ?_)))))) | ((with_reducible refine (?_ : chk _ _ = true)); kernel_rfl) | ((with_reducible refine (?_ : (_ : IntKind) = _)); (with_reducible rfl)) | ((with_reducible refine (?_ : eqC (C.pvw _ _ _) (C.pvw _ _ _))); exact rfl) | ((with_reducible refine (?_ : eqC (C.pv (Value.int IntKind.u64 _)) _)); exact rfl) | exact trivial)
  · refine ⟨((n2, n3), (n0, n1), (n4, n5)), s1, ⟨by dsimp only at *; omega, by dsimp only at *; omega⟩, ?_⟩
    refine afun_intro fn28 rfl rfl (by repeat' (first | exact trivial | (simp; done) | refine ⟨?_, ?_⟩)) ?_
    unfold ac28
    repeat' (first | ((with_reducible refine (?_ : (_ : Bool) = _)); (with_reducible rfl)) | ((with_reducible refine (?_ : (_ : Nat × Nat) = _)); (with_reducible rfl)) | (with_reducible refine leafRI ?_) | (with_reducible refine leafRB ?_) | (with_reducible refine leafI ?_) | (with_reducible refine leafB ?_) | ((with_reducible refine (?_ : (_ : Int) = _)); (with_reducible rfl)) | ((with_reducible refine (?_ : (_ : List (List Value)) = _)); (with_reducible rfl)) | ((with_reducible refine (?_ : (_ : Int) ≠ 0)); (first | assumption | omega | (simp; done) | (simp only [ints_len] at *; omega) | (simp; omega))) | ((with_reducible refine (?_ : (_ : Int) ≤ _)); (first | assumption | omega | (simp; done) | (simp only [ints_len] at *; omega) | (simp; omega))) | ((with_reducible refine (?_ : (_ : Int) < _)); (first | assumption | omega | (simp; done) | (simp only [ints_len] at *; omega) | (simp; omega))) | ((with_reducible refine (?_ : (_ : Nat) ≤ _)); (first | omega | (simp only [List.length_cons, List.length_nil]; omega) | (simp [ints]; done) | (simp; omega))) | ((with_reducible refine (?_ : (_ : Nat) < _)); (first | omega | (simp only [List.length_cons, List.length_nil]; omega) | (simp [ints]; done) | (simp; omega))) | ((with_reducible refine (?_ : (_ : Nat) = _)); (first | (with_reducible rfl) | (simp; done) | (simp only [fr_len]) | (simp only [ints_len]) | omega | (simp [*]; done))) | (refine And.intro ?_ ?_) | (intro h; first | (exact Bool.noConfusion h) | ((simp only [decide_eq_true_eq, decide_eq_false_iff_not, beq_iff_eq, bne_iff_ne, ne_eq, beq_eq_false_iff_ne, bne_eq_false_iff_eq, Bool.not_eq_true', Bool.not_eq_false', Bool.not_eq_true, Bool.not_eq_false, Int.not_le, Int.not_lt, Bool.and_eq_true, Bool.or_eq_true, Bool.or_eq_false_iff, Bool.and_eq_false_iff] at h); (try (first | (exact Bool.noConfusion h) | (exact (h trivial).elim)))) | skip) | ((refine (?_ : ACall _ _ _ _ _ _ _)); first | ((apply abox (a3)); (focus (exact rfl)); (focus (exact rfl)); (focus (exact rfl)); (focus (repeat' (first | exact rfl | (refine And.intro ?_ ?_) | (simp; done) | omega))); (focus (repeat' (first | exact trivial | exact rfl | (refine And.intro ?_ ?_))))) | ((apply acall (spec_tpRootP)); (focus (repeat' (first | exact rfl | (refine And.intro ?_ ?_) | (simp only [ints_len]; done) | (simp; done) | omega)))) | ((apply acall (spec_tpRoot)); (focus (repeat' (first | exact rfl | (refine And.intro ?_ ?_) | (simp only [ints_len]; done) | (simp; done) | omega))))) | ((with_reducible refine (?_ : chk _ _ = true)); kernel_rfl) | ((with_reducible refine (?_ : (_ : IntKind) = _)); (with_reducible rfl)) | ((with_reducible refine (?_ : eqC (C.pvw _ _ _) (C.pvw _ _ _))); exact rfl) | ((with_reducible refine (?_ : eqC (C.pv (Value.int IntKind.u64 _)) _)); exact rfl) | exact trivial)
    refine loop_rule (σ := Int × Nat × ((Int × Int) × (Int × Int) × (Int × Int)) × (Int × Int)) (fun s => [(4, I s.1)]) (fun s => [((0, 0), Cx v l s.2.2.2), ((2, 0), .bx [cI 0, cI 0, cI 0, cI 0, cI 0, cI 0]), ((3, 0), .bx [cI s.2.2.1.1.1, cI s.2.2.1.1.2, cI s.2.2.1.2.1.1, cI s.2.2.1.2.1.2, cI s.2.2.1.2.2.1, cI s.2.2.1.2.2.2])]) (fun s => 0 ≤ s.1 ∧ s.1 + s.2.1 = k ∧ (s.2.2.1, s.2.2.2) = f s.2.1) (fun s => s.1.toNat) ((k, 0, rt6, s0)) ?_ (by repeat' (first | exact trivial | exact rfl | (refine And.intro ?_ ?_))) (by repeat' (first | exact trivial | exact rfl | (refine And.intro ?_ ?_))) (fun s => ⟨rfl, rfl⟩) (fun s i h => by first | exact absurd h (Nat.not_lt_zero i) | (cases i with | zero => rfl | succ i => exact absurd (Nat.lt_of_succ_lt_succ h) (Nat.not_lt_zero i))) ?_
    · exact ⟨by dsimp only; omega, by dsimp only; omega, f0.symm⟩
    rintro ⟨i, j, ⟨⟨m0, m1⟩, ⟨m2, m3⟩, ⟨m4, m5⟩⟩, ⟨c, cd⟩⟩ ⟨g1, g2, g3⟩
    dsimp only at g1 g2 g3 ⊢
    have w1 : wrap64 (i - 1) = i - 1 := wrap_small (by omega) (by omega)
    by_cases hi : 0 < i
    · obtain ⟨hg, u, q1, q2⟩ := hf2 j (by omega)
      rw [← g3] at hg q1 q2
      dsimp only at hg q1 q2
      have hst := spec_tpStep m0 m1 m2 m3 m4 m5 (wrap64 (1 + u)) hg
      rw [← q2] at hst
      generalize hy : f (j + 1) = y at *
      obtain ⟨⟨⟨x0, x1⟩, ⟨x2, x3⟩, ⟨x4, x5⟩⟩, ⟨yc, yd⟩⟩ := y
      dsimp only at q1 q2 hst
      repeat' (first | ((with_reducible refine (?_ : (_ : Bool) = _)); (with_reducible rfl)) | ((with_reducible refine (?_ : (_ : Nat × Nat) = _)); (with_reducible rfl)) | (with_reducible refine leafRI ?_) | (with_reducible refine leafRB ?_) | (with_reducible refine leafI ?_) | (with_reducible refine leafB ?_) | ((with_reducible refine (?_ : (_ : Int) = _)); (with_reducible rfl)) | ((with_reducible refine (?_ : (_ : List (List Value)) = _)); (with_reducible rfl)) | ((with_reducible refine (?_ : (_ : Int) ≠ 0)); (first | assumption | omega | (simp; done) | (simp only [ints_len] at *; omega) | (simp; omega))) | ((with_reducible refine (?_ : (_ : Int) ≤ _)); (first | assumption | omega | (simp; done) | (simp only [ints_len] at *; omega) | (simp; omega))) | ((with_reducible refine (?_ : (_ : Int) < _)); (first | assumption | omega | (simp; done) | (simp only [ints_len] at *; omega) | (simp; omega))) | ((with_reducible refine (?_ : (_ : Nat) ≤ _)); (first | omega | (simp only [List.length_cons, List.length_nil]; omega) | (simp [ints]; done) | (simp; omega))) | ((with_reducible refine (?_ : (_ : Nat) < _)); (first | omega | (simp only [List.length_cons, List.length_nil]; omega) | (simp [ints]; done) | (simp; omega))) | ((with_reducible refine (?_ : (_ : Nat) = _)); (first | (with_reducible rfl) | (simp; done) | (simp only [fr_len]) | (simp only [ints_len]) | omega | (simp [*]; done))) | (refine And.intro ?_ ?_) | (intro h; first | (exact Bool.noConfusion h) | ((simp only [decide_eq_true_eq, decide_eq_false_iff_not, beq_iff_eq, bne_iff_ne, ne_eq, beq_eq_false_iff_ne, bne_eq_false_iff_eq, Bool.not_eq_true', Bool.not_eq_false', Bool.not_eq_true, Bool.not_eq_false, Int.not_le, Int.not_lt, Bool.and_eq_true, Bool.or_eq_true, Bool.or_eq_false_iff, Bool.and_eq_false_iff] at h); (try (exfalso; omega))) | skip) | ((refine (?_ : ACall _ _ _ _ _ _ _)); first | ((apply abox (q1)); (focus (exact rfl)); (focus (exact rfl)); (focus (exact rfl)); (focus (repeat' (first | exact rfl | (refine And.intro ?_ ?_) | (simp; done) | omega))); (focus (repeat' (first | exact trivial | exact rfl | (refine And.intro ?_ ?_))))) | ((apply acall (hst)); (focus (repeat' (first | exact rfl | (refine And.intro ?_ ?_) | (simp only [ints_len]; done) | (simp; done) | omega))))) | ((with_reducible refine (?_ : chk _ _ = true)); kernel_rfl) | ((with_reducible refine (?_ : (_ : IntKind) = _)); (with_reducible rfl)) | ((with_reducible refine (?_ : eqC (C.pvw _ _ _) (C.pvw _ _ _))); exact rfl) | ((with_reducible refine (?_ : eqC (C.pv (Value.int IntKind.u64 _)) _)); exact rfl) | exact trivial)
      refine ⟨(_, j + 1, ((_, _), (_, _), (_, _)), (_, _)), ?_, ?_, none, And.intro rfl (And.intro (by repeat' (first | exact trivial | exact rfl | (refine And.intro ?_ ?_))) (by repeat' (first | exact trivial | exact rfl | (refine And.intro ?_ ?_))))⟩
      · dsimp only
        rw [w1]
        exact ⟨by omega, by omega, hy.symm⟩
      · dsimp only
        rw [w1]; omega
    · have hj : k.toNat = j := by omega
      rw [hj, ← g3] at hfk
      simp only [Prod.mk.injEq] at hfk
      obtain ⟨⟨⟨rfl, rfl⟩, ⟨rfl, rfl⟩, ⟨rfl, rfl⟩⟩, rfl, rfl⟩ := hfk
      repeat' (first | ((with_reducible refine (?_ : (_ : Bool) = _)); (with_reducible rfl)) | ((with_reducible refine (?_ : (_ : Nat × Nat) = _)); (with_reducible rfl)) | (with_reducible refine leafRI ?_) | (with_reducible refine leafRB ?_) | (with_reducible refine leafI ?_) | (with_reducible refine leafB ?_) | ((with_reducible refine (?_ : (_ : Int) = _)); (with_reducible rfl)) | ((with_reducible refine (?_ : (_ : List (List Value)) = _)); (with_reducible rfl)) | ((with_reducible refine (?_ : (_ : Int) ≠ 0)); (first | assumption | omega | (simp; done) | (simp only [ints_len] at *; omega) | (simp; omega))) | ((with_reducible refine (?_ : (_ : Int) ≤ _)); (first | assumption | omega | (simp; done) | (simp only [ints_len] at *; omega) | (simp; omega))) | ((with_reducible refine (?_ : (_ : Int) < _)); (first | assumption | omega | (simp; done) | (simp only [ints_len] at *; omega) | (simp; omega))) | ((with_reducible refine (?_ : (_ : Nat) ≤ _)); (first | omega | (simp only [List.length_cons, List.length_nil]; omega) | (simp [ints]; done) | (simp; omega))) | ((with_reducible refine (?_ : (_ : Nat) < _)); (first | omega | (simp only [List.length_cons, List.length_nil]; omega) | (simp [ints]; done) | (simp; omega))) | ((with_reducible refine (?_ : (_ : Nat) = _)); (first | (with_reducible rfl) | (simp; done) | (simp only [fr_len]) | (simp only [ints_len]) | omega | (simp [*]; done))) | (refine And.intro ?_ ?_) | (intro h; first | (exact Bool.noConfusion h) | ((simp only [decide_eq_true_eq, decide_eq_false_iff_not, beq_iff_eq, bne_iff_ne, ne_eq, beq_eq_false_iff_ne, bne_eq_false_iff_eq, Bool.not_eq_true', Bool.not_eq_false', Bool.not_eq_true, Bool.not_eq_false, Int.not_le, Int.not_lt, Bool.and_eq_true, Bool.or_eq_true, Bool.or_eq_false_iff, Bool.and_eq_false_iff] at h); (try (exfalso; omega))) | skip) | ((refine (?_ : ACall _ _ _ _ _ _ _)); first | ((apply abox (b3)); (focus (exact rfl)); (focus (exact rfl)); (focus (exact rfl)); (focus (repeat' (first | exact rfl | (refine And.intro ?_ ?_) | (simp; done) | omega))); (focus (repeat' (first | exact trivial | exact rfl | (refine And.intro ?_ ?_))))) | ((apply acall (spec_tpRootP)); (focus (repeat' (first | exact rfl | (refine And.intro ?_ ?_) | (simp only [ints_len]; done) | (simp; done) | omega)))) | ((apply acall (spec_tpRoot)); (focus (repeat' (first | exact rfl | (refine And.intro ?_ ?_) | (simp only [ints_len]; done) | (simp; done) | omega))))) | ((with_reducible refine (?_ : chk _ _ = true)); kernel_rfl) | ((with_reducible refine (?_ : (_ : IntKind) = _)); (with_reducible rfl)) | ((with_reducible refine (?_ : eqC (C.pvw _ _ _) (C.pvw _ _ _))); exact rfl) | ((with_reducible refine (?_ : eqC (C.pv (Value.int IntKind.u64 _)) _)); exact rfl) | exact trivial)
  · refine ⟨((n0, n1), (n2, n3), (wrap64 (-n4), wrap64 (-n5))), s1, ⟨by dsimp only at *; omega, by dsimp only at *; omega⟩, ?_⟩
    refine afun_intro fn28 rfl rfl (by repeat' (first | exact trivial | (simp; done) | refine ⟨?_, ?_⟩)) ?_
    unfold ac28
    repeat' (first | ((with_reducible refine (?_ : (_ : Bool) = _)); (with_reducible rfl)) | ((with_reducible refine (?_ : (_ : Nat × Nat) = _)); (with_reducible rfl)) | (with_reducible refine leafRI ?_) | (with_reducible refine leafRB ?_) | (with_reducible refine leafI ?_) | (with_reducible refine leafB ?_) | ((with_reducible refine (?_ : (_ : Int) = _)); (with_reducible rfl)) | ((with_reducible refine (?_ : (_ : List (List Value)) = _)); (with_reducible rfl)) | ((with_reducible refine (?_ : (_ : Int) ≠ 0)); (first | assumption | omega | (simp; done) | (simp only [ints_len] at *; omega) | (simp; omega))) | ((with_reducible refine (?_ : (_ : Int) ≤ _)); (first | assumption | omega | (simp; done) | (simp only [ints_len] at *; omega) | (simp; omega))) | ((with_reducible refine (?_ : (_ : Int) < _)); (first | assumption | omega | (simp; done) | (simp only [ints_len] at *; omega) | (simp; omega))) | ((with_reducible refine (?_ : (_ : Nat) ≤ _)); (first | omega | (simp only [List.length_cons, List.length_nil]; omega) | (simp [ints]; done) | (simp; omega))) | ((with_reducible refine (?_ : (_ : Nat) < _)); (first | omega | (simp only [List.length_cons, List.length_nil]; omega) | (simp [ints]; done) | (simp; omega))) | ((with_reducible refine (?_ : (_ : Nat) = _)); (first | (with_reducible rfl) | (simp; done) | (simp only [fr_len]) | (simp only [ints_len]) | omega | (simp [*]; done))) | (refine And.intro ?_ ?_) | (intro h; first | (exact Bool.noConfusion h) | ((simp only [decide_eq_true_eq, decide_eq_false_iff_not, beq_iff_eq, bne_iff_ne, ne_eq, beq_eq_false_iff_ne, bne_eq_false_iff_eq, Bool.not_eq_true', Bool.not_eq_false', Bool.not_eq_true, Bool.not_eq_false, Int.not_le, Int.not_lt, Bool.and_eq_true, Bool.or_eq_true, Bool.or_eq_false_iff, Bool.and_eq_false_iff] at h); (try (first | (exact Bool.noConfusion h) | (exact (h trivial).elim)))) | skip) | ((refine (?_ : ACall _ _ _ _ _ _ _)); first | ((apply abox (a3)); (focus (exact rfl)); (focus (exact rfl)); (focus (exact rfl)); (focus (repeat' (first | exact rfl | (refine And.intro ?_ ?_) | (simp; done) | omega))); (focus (repeat' (first | exact trivial | exact rfl | (refine And.intro ?_ ?_))))) | ((apply acall (spec_tpRootP)); (focus (repeat' (first | exact rfl | (refine And.intro ?_ ?_) | (simp only [ints_len]; done) | (simp; done) | omega)))) | ((apply acall (spec_tpRoot)); (focus (repeat' (first | exact rfl | (refine And.intro ?_ ?_) | (simp only [ints_len]; done) | (simp; done) | omega))))) | ((with_reducible refine (?_ : chk _ _ = true)); kernel_rfl) | ((with_reducible refine (?_ : (_ : IntKind) = _)); (with_reducible rfl)) | ((with_reducible refine (?_ : eqC (C.pvw _ _ _) (C.pvw _ _ _))); exact rfl) | ((with_reducible refine (?_ : eqC (C.pv (Value.int IntKind.u64 _)) _)); exact rfl) | exact trivial)
    refine loop_rule (σ := Int × Nat × ((Int × Int) × (Int × Int) × (Int × Int)) × (Int × Int)) (fun s => [(4, I s.1)]) (fun s => [((0, 0), Cx v l s.2.2.2), ((2, 0), .bx [cI 0, cI 0, cI 0, cI 0, cI 0, cI 0]), ((3, 0), .bx [cI s.2.2.1.1.1, cI s.2.2.1.1.2, cI s.2.2.1.2.1.1, cI s.2.2.1.2.1.2, cI s.2.2.1.2.2.1, cI s.2.2.1.2.2.2])]) (fun s => 0 ≤ s.1 ∧ s.1 + s.2.1 = k ∧ (s.2.2.1, s.2.2.2) = f s.2.1) (fun s => s.1.toNat) ((k, 0, rt6, s0)) ?_ (by repeat' (first | exact trivial | exact rfl | (refine And.intro ?_ ?_))) (by repeat' (first | exact trivial | exact rfl | (refine And.intro ?_ ?_))) (fun s => ⟨rfl, rfl⟩) (fun s i h => by first | exact absurd h (Nat.not_lt_zero i) | (cases i with | zero => rfl | succ i => exact absurd (Nat.lt_of_succ_lt_succ h) (Nat.not_lt_zero i))) ?_
    · exact ⟨by dsimp only; omega, by dsimp only; omega, f0.symm⟩
    rintro ⟨i, j, ⟨⟨m0, m1⟩, ⟨m2, m3⟩, ⟨m4, m5⟩⟩, ⟨c, cd⟩⟩ ⟨g1, g2, g3⟩
    dsimp only at g1 g2 g3 ⊢
    have w1 : wrap64 (i - 1) = i - 1 := wrap_small (by omega) (by omega)
    by_cases hi : 0 < i
    · obtain ⟨hg, u, q1, q2⟩ := hf2 j (by omega)
      rw [← g3] at hg q1 q2
      dsimp only at hg q1 q2
      have hst := spec_tpStep m0 m1 m2 m3 m4 m5 (wrap64 (1 + u)) hg
      rw [← q2] at hst
      generalize hy : f (j + 1) = y at *
      obtain ⟨⟨⟨x0, x1⟩, ⟨x2, x3⟩, ⟨x4, x5⟩⟩, ⟨yc, yd⟩⟩ := y
      dsimp only at q1 q2 hst
      repeat' (first | ((with_reducible refine (?_ : (_ : Bool) = _)); (with_reducible rfl)) | ((with_reducible refine (?_ : (_ : Nat × Nat) = _)); (with_reducible rfl)) | (with_reducible refine leafRI ?_) | (with_reducible refine leafRB ?_) | (with_reducible refine leafI ?_) | (with_reducible refine leafB ?_) | ((with_reducible refine (?_ : (_ : Int) = _)); (with_reducible rfl)) | ((with_reducible refine (?_ : (_ : List (List Value)) = _)); (with_reducible rfl)) | ((with_reducible refine (?_ : (_ : Int) ≠ 0)); (first | assumption | omega | (simp; done) | (simp only [ints_len] at *; omega) | (simp; omega))) | ((with_reducible refine (?_ : (_ : Int) ≤ _)); (first | assumption | omega | (simp; done) | (simp only [ints_len] at *; omega) | (simp; omega))) | ((with_reducible refine (?_ : (_ : Int) < _)); (first | assumption | omega | (simp; done) | (simp only [ints_len] at *; omega) | (simp; omega))) | ((with_reducible refine (?_ : (_ : Nat) ≤ _)); (first | omega | (simp only [List.length_cons, List.length_nil]; omega) | (simp [ints]; done) | (simp; omega))) | ((with_reducible refine (?_ : (_ : Nat) < _)); (first | omega | (simp only [List.length_cons, List.length_nil]; omega) | (simp [ints]; done) | (simp; omega))) | ((with_reducible refine (?_ : (_ : Nat) = _)); (first | (with_reducible rfl) | (simp; done) | (simp only [fr_len]) | (simp only [ints_len]) | omega | (simp [*]; done))) | (refine And.intro ?_ ?_) | (intro h; first | (exact Bool.noConfusion h) | ((simp only [decide_eq_true_eq, decide_eq_false_iff_not, beq_iff_eq, bne_iff_ne, ne_eq, beq_eq_false_iff_ne, bne_eq_false_iff_eq, Bool.not_eq_true', Bool.not_eq_false', Bool.not_eq_true, Bool.not_eq_false, Int.not_le, Int.not_lt, Bool.and_eq_true, Bool.or_eq_true, Bool.or_eq_false_iff, Bool.and_eq_false_iff] at h); (try (exfalso; omega))) | skip) | ((refine (?_ : ACall _ _ _ _ _ _ _)); first | ((apply abox (q1)); (focus (exact rfl)); (focus (exact rfl)); (focus (exact rfl)); (focus (repeat' (first | exact rfl | (refine And.intro ?_ ?_) | (simp; done) | omega))); (focus (repeat' (first | exact trivial | exact rfl | (refine And.intro ?_ ?_))))) | ((apply acall (hst)); (focus (repeat' (first | exact rfl | (refine And.intro ?_ ?_) | (simp only [ints_len]; done) | (simp; done) | omega))))) | ((with_reducible refine (?_ : chk _ _ = true)); kernel_rfl) | ((with_reducible refine (?_ : (_ : IntKind) = _)); (with_reducible rfl)) | ((with_reducible refine (?_ : eqC (C.pvw _ _ _) (C.pvw _ _ _))); exact rfl) | ((with_reducible refine (?_ : eqC (C.pv (Value.int IntKind.u64 _)) _)); exact rfl) | exact trivial)
      refine ⟨(_, j + 1, ((_, _), (_, _), (_, _)), (_, _)), ?_, ?_, none, And.intro rfl (And.intro (by repeat' (first | exact trivial | exact rfl | (refine And.intro ?_ ?_))) (by repeat' (first | exact trivial | exact rfl | (refine And.intro ?_ ?_))))⟩
      · dsimp only
        rw [w1]
        exact ⟨by omega, by omega, hy.symm⟩
      · dsimp only
        rw [w1]; omega
    · have hj : k.toNat = j := by omega
      rw [hj, ← g3] at hfk
      simp only [Prod.mk.injEq] at hfk
      obtain ⟨⟨⟨rfl, rfl⟩, ⟨rfl, rfl⟩, ⟨rfl, rfl⟩⟩, rfl, rfl⟩ := hfk
      repeat' (first | ((with_reducible refine (?_ : (_ : Bool) = _)); (with_reducible rfl)) | ((with_reducible refine (?_ : (_ : Nat × Nat) = _)); (with_reducible rfl)) | (with_reducible refine leafRI ?_) | (with_reducible refine leafRB ?_) | (with_reducible refine leafI ?_) | (with_reducible refine leafB ?_) | ((with_reducible refine (?_ : (_ : Int) = _)); (with_reducible rfl)) | ((with_reducible refine (?_ : (_ : List (List Value)) = _)); (with_reducible rfl)) | ((with_reducible refine (?_ : (_ : Int) ≠ 0)); (first | assumption | omega | (simp; done) | (simp only [ints_len] at *; omega) | (simp; omega))) | ((with_reducible refine (?_ : (_ : Int) ≤ _)); (first | assumption | omega | (simp; done) | (simp only [ints_len] at *; omega) | (simp; omega))) | ((with_reducible refine (?_ : (_ : Int) < _)); (first | assumption | omega | (simp; done) | (simp only [ints_len] at *; omega) | (simp; omega))) | ((with_reducible refine (?_ : (_ : Nat) ≤ _)); (first | omega | (simp only [List.length_cons, List.length_nil]; omega) | (simp [ints]; done) | (simp; omega))) | ((with_reducible refine (?_ : (_ : Nat) < _)); (first | omega | (simp only [List.length_cons, List.length_nil]; omega) | (simp [ints]; done) | (simp; omega))) | ((with_reducible refine (?_ : (_ : Nat) = _)); (first | (with_reducible rfl) | (simp; done) | (simp only [fr_len]) | (simp only [ints_len]) | omega | (simp [*]; done))) | (refine And.intro ?_ ?_) | (intro h; first | (exact Bool.noConfusion h) | ((simp only [decide_eq_true_eq, decide_eq_false_iff_not, beq_iff_eq, bne_iff_ne, ne_eq, beq_eq_false_iff_ne, bne_eq_false_iff_eq, Bool.not_eq_true', Bool.not_eq_false', Bool.not_eq_true, Bool.not_eq_false, Int.not_le, Int.not_lt, Bool.and_eq_true, Bool.or_eq_true, Bool.or_eq_false_iff, Bool.and_eq_false_iff] at h); (try (exfalso; omega))) | skip) | ((refine (?_ : ACall _ _ _ _ _ _ _)); first | ((apply abox (b3)); (focus (exact rfl)); (focus (exact rfl)); (focus (exact rfl)); (focus (repeat' (first | exact rfl | (refine And.intro ?_ ?_) | (simp; done) | omega))); (focus (repeat' (first | exact trivial | exact rfl | (refine And.intro ?_ ?_))))) | ((apply acall (spec_tpRootP)); (focus (repeat' (first | exact rfl | (refine And.intro ?_ ?_) | (simp only [ints_len]; done) | (simp; done) | omega)))) | ((apply acall (spec_tpRoot)); (focus (repeat' (first | exact rfl | (refine And.intro ?_ ?_) | (simp only [ints_len]; done) | (simp; done) | omega))))) | ((with_reducible refine (?_ : chk _ _ = true)); kernel_rfl) | ((with_reducible refine (?_ : (_ : IntKind) = _)); (with_reducible rfl)) | ((with_reducible refine (?_ : eqC (C.pvw _ _ _) (C.pvw _ _ _))); exact rfl) | ((with_reducible refine (?_ : eqC (C.pv (Value.int IntKind.u64 _)) _)); exact rfl) | exact trivial)
  · refine ⟨mkN (0, 1) (1, y1) (1, y2), s4, ⟨by dsimp only at *; omega, by dsimp only at *; omega⟩, ?_⟩
    refine afun_intro fn28 rfl rfl (by repeat' (first | exact trivial | (simp; done) | refine ⟨?_, ?_⟩)) ?_
    unfold ac28
    repeat' (first | ((with_reducible refine (?_ : (_ : Bool) = _)); (with_reducible rfl)) | ((with_reducible refine (?_ : (_ : Nat × Nat) = _)); (with_reducible rfl)) | (with_reducible refine leafRI ?_) | (with_reducible refine leafRB ?_) | (with_reducible refine leafI ?_) | (with_reducible refine leafB ?_) | ((with_reducible refine (?_ : (_ : Int) = _)); (with_reducible rfl)) | ((with_reducible refine (?_ : (_ : List (List Value)) = _)); (with_reducible rfl)) | ((with_reducible refine (?_ : (_ : Int) ≠ 0)); (first | assumption | omega | (simp; done) | (simp only [ints_len] at *; omega) | (simp; omega))) | ((with_reducible refine (?_ : (_ : Int) ≤ _)); (first | assumption | omega | (simp; done) | (simp only [ints_len] at *; omega) | (simp; omega))) | ((with_reducible refine (?_ : (_ : Int) < _)); (first | assumption | omega | (simp; done) | (simp only [ints_len] at *; omega) | (simp; omega))) | ((with_reducible refine (?_ : (_ : Nat) ≤ _)); (first | omega | (simp only [List.length_cons, List.length_nil]; omega) | (simp [ints]; done) | (simp; omega))) | ((with_reducible refine (?_ : (_ : Nat) < _)); (first | omega | (simp only [List.length_cons, List.length_nil]; omega) | (simp [ints]; done) | (simp; omega))) | ((with_reducible refine (?_ : (_ : Nat) = _)); (first | (with_reducible rfl) | (simp; done) | (simp only [fr_len]) | (simp only [ints_len]) | omega | (simp [*]; done))) | (refine And.intro ?_ ?_) | (intro h; first | (exact Bool.noConfusion h) | ((simp only [decide_eq_true_eq, decide_eq_false_iff_not, beq_iff_eq, bne_iff_ne, ne_eq, beq_eq_false_iff_ne, bne_eq_false_iff_eq, Bool.not_eq_true', Bool.not_eq_false', Bool.not_eq_true, Bool.not_eq_false, Int.not_le, Int.not_lt, Bool.and_eq_true, Bool.or_eq_true, Bool.or_eq_false_iff, Bool.and_eq_false_iff] at h); (try (first | (exact Bool.noConfusion h) | (exact (h trivial).elim)))) | skip) | ((refine (?_ : ACall _ _ _ _ _ _ _)); first | ((apply abox (a3)); (focus (exact rfl)); (focus (exact rfl)); (focus (exact rfl)); (focus (repeat' (first | exact rfl | (refine And.intro ?_ ?_) | (simp; done) | omega))); (focus (repeat' (first | exact trivial | exact rfl | (refine And.intro ?_ ?_))))) | ((apply acall (spec_tpRootP)); (focus (repeat' (first | exact rfl | (refine And.intro ?_ ?_) | (simp only [ints_len]; done) | (simp; done) | omega)))) | ((apply acall (spec_tpRoot)); (focus (repeat' (first | exact rfl | (refine And.intro ?_ ?_) | (simp only [ints_len]; done) | (simp; done) | omega))))) | ((with_reducible refine (?_ : chk _ _ = true)); kernel_rfl) | ((with_reducible refine (?_ : (_ : IntKind) = _)); (with_reducible rfl)) | ((with_reducible refine (?_ : eqC (C.pvw _ _ _) (C.pvw _ _ _))); exact rfl) | ((with_reducible refine (?_ : eqC (C.pv (Value.int IntKind.u64 _)) _)); exact rfl) | exact trivial)
    refine loop_rule (σ := Int × Nat × ((Int × Int) × (Int × Int) × (Int × Int)) × (Int × Int)) (fun s => [(4, I s.1)]) (fun s => [((0, 0), Cx v l s.2.2.2), ((2, 0), .bx [cI 0, cI 0, cI 0, cI 0, cI 0, cI 0]), ((3, 0), .bx [cI s.2.2.1.1.1, cI s.2.2.1.1.2, cI s.2.2.1.2.1.1, cI s.2.2.1.2.1.2, cI s.2.2.1.2.2.1, cI s.2.2.1.2.2.2])]) (fun s => 0 ≤ s.1 ∧ s.1 + s.2.1 = k ∧ (s.2.2.1, s.2.2.2) = f s.2.1) (fun s => s.1.toNat) ((k, 0, rt6, s0)) ?_ (by repeat' (first | exact trivial | exact rfl | (refine And.intro ?_ ?_))) (by repeat' (first | exact trivial | exact rfl | (refine And.intro ?_ ?_))) (fun s => ⟨rfl, rfl⟩) (fun s i h => by first | exact absurd h (Nat.not_lt_zero i) | (cases i with | zero => rfl | succ i => exact absurd (Nat.lt_of_succ_lt_succ h) (Nat.not_lt_zero i))) ?_
    · exact ⟨by dsimp only; omega, by dsimp only; omega, f0.symm⟩
    rintro ⟨i, j, ⟨⟨m0, m1⟩, ⟨m2, m3⟩, ⟨m4, m5⟩⟩, ⟨c, cd⟩⟩ ⟨g1, g2, g3⟩
    dsimp only at g1 g2 g3 ⊢
    have w1 : wrap64 (i - 1) = i - 1 := wrap_small (by omega) (by omega)
    by_cases hi : 0 < i
    · obtain ⟨hg, u, q1, q2⟩ := hf2 j (by omega)
      rw [← g3] at hg q1 q2
      dsimp only at hg q1 q2
      have hst := spec_tpStep m0 m1 m2 m3 m4 m5 (wrap64 (1 + u)) hg
      rw [← q2] at hst
      generalize hy : f (j + 1) = y at *
      obtain ⟨⟨⟨x0, x1⟩, ⟨x2, x3⟩, ⟨x4, x5⟩⟩, ⟨yc, yd⟩⟩ := y
      dsimp only at q1 q2 hst
      repeat' (first | ((with_reducible refine (?_ : (_ : Bool) = _)); (with_reducible rfl)) | ((with_reducible refine (?_ : (_ : Nat × Nat) = _)); (with_reducible rfl)) | (with_reducible refine leafRI ?_) | (with_reducible refine leafRB ?_) | (with_reducible refine leafI ?_) | (with_reducible refine leafB ?_) | ((with_reducible refine (?_ : (_ : Int) = _)); (with_reducible rfl)) | ((with_reducible refine (?_ : (_ : List (List Value)) = _)); (with_reducible rfl)) | ((with_reducible refine (?_ : (_ : Int) ≠ 0)); (first | assumption | omega | (simp; done) | (simp only [ints_len] at *; omega) | (simp; omega))) | ((with_reducible refine (?_ : (_ : Int) ≤ _)); (first | assumption | omega | (simp; done) | (simp only [ints_len] at *; omega) | (simp; omega))) | ((with_reducible refine (?_ : (_ : Int) < _)); (first | assumption | omega | (simp; done) | (simp only [ints_len] at *; omega) | (simp; omega))) | ((with_reducible refine (?_ : (_ : Nat) ≤ _)); (first | omega | (simp only [List.length_cons, List.length_nil]; omega) | (simp [ints]; done) | (simp; omega))) | ((with_reducible refine (?_ : (_ : Nat) < _)); (first | omega | (simp only [List.length_cons, List.length_nil]; omega) | (simp [ints]; done) | (simp; omega))) | ((with_reducible refine (?_ : (_ : Nat) = _)); (first | (with_reducible rfl) | (simp; done) | (simp only [fr_len]) | (simp only [ints_len]) | omega | (simp [*]; done))) | (refine And.intro ?_ ?_) | (intro h; first | (exact Bool.noConfusion h) | ((simp only [decide_eq_true_eq, decide_eq_false_iff_not, beq_iff_eq, bne_iff_ne, ne_eq, beq_eq_false_iff_ne, bne_eq_false_iff_eq, Bool.not_eq_true', Bool.not_eq_false', Bool.not_eq_true, Bool.not_eq_false, Int.not_le, Int.not_lt, Bool.and_eq_true, Bool.or_eq_true, Bool.or_eq_false_iff, Bool.and_eq_false_iff] at h); (try (exfalso; omega))) | skip) | ((refine (?_ : ACall _ _ _ _ _ _ _)); first | ((apply abox (q1)); (focus (exact rfl)); (focus (exact rfl)); (focus (exact rfl)); (focus (repeat' (first | exact rfl | (refine And.intro ?_ ?_) | (simp; done) | omega))); (focus (repeat' (first | exact trivial | exact rfl | (refine And.intro ?_ ?_))))) | ((apply acall (hst)); (focus (repeat' (first | exact rfl | (refine And.intro ?_ ?_) | (simp only [ints_len]; done) | (simp; done) | omega))))) | ((with_reducible refine (?_ : chk _ _ = true)); kernel_rfl) | ((with_reducible refine (?_ : (_ : IntKind) = _)); (with_reducible rfl)) | ((with_reducible refine (?_ : eqC (C.pvw _ _ _) (C.pvw _ _ _))); exact rfl) | ((with_reducible refine (?_ : eqC (C.pv (Value.int IntKind.u64 _)) _)); exact rfl) | exact trivial)
      refine ⟨(_, j + 1, ((_, _), (_, _), (_, _)), (_, _)), ?_, ?_, none, And.intro rfl (And.intro (by repeat' (first | exact trivial | exact rfl | (refine And.intro ?_ ?_))) (by repeat' (first | exact trivial | exact rfl | (refine And.intro ?_ ?_))))⟩
      · dsimp only
        rw [w1]
        exact ⟨by omega, by omega, hy.symm⟩
      · dsimp only
        rw [w1]; omega
    · have hj : k.toNat = j := by omega
      rw [hj, ← g3] at hfk
      simp only [Prod.mk.injEq] at hfk
      obtain ⟨⟨⟨rfl, rfl⟩, ⟨rfl, rfl⟩, ⟨rfl, rfl⟩⟩, rfl, rfl⟩ := hfk
      repeat' (first | ((with_reducible refine (?_ : (_ : Bool) = _)); (with_reducible rfl)) | ((with_reducible refine (?_ : (_ : Nat × Nat) = _)); (with_reducible rfl)) | (with_reducible refine leafRI ?_) | (with_reducible refine leafRB ?_) | (with_reducible refine leafI ?_) | (with_reducible refine leafB ?_) | ((with_reducible refine (?_ : (_ : Int) = _)); (with_reducible rfl)) | ((with_reducible refine (?_ : (_ : List (List Value)) = _)); (with_reducible rfl)) | ((with_reducible refine (?_ : (_ : Int) ≠ 0)); (first | assumption | omega | (simp; done) | (simp only [ints_len] at *; omega) | (simp; omega))) | ((with_reducible refine (?_ : (_ : Int) ≤ _)); (first | assumption | omega | (simp; done) | (simp only [ints_len] at *; omega) | (simp; omega))) | ((with_reducible refine (?_ : (_ : Int) < _)); (first | assumption | omega | (simp; done) | (simp only [ints_len] at *; omega) | (simp; omega))) | ((with_reducible refine (?_ : (_ : Nat) ≤ _)); (first | omega | (simp only [List.length_cons, List.length_nil]; omega) | (simp [ints]; done) | (simp; omega))) | ((with_reducible refine (?_ : (_ : Nat) < _)); (first | omega | (simp only [List.length_cons, List.length_nil]; omega) | (simp [ints]; done) | (simp; omega))) | ((with_reducible refine (?_ : (_ : Nat) = _)); (first | (with_reducible rfl) | (simp; done) | (simp only [fr_len]) | (simp only [ints_len]) | omega | (simp [*]; done))) | (refine And.intro ?_ ?_) | (intro h; first | (exact Bool.noConfusion h) | ((simp only [decide_eq_true_eq, decide_eq_false_iff_not, beq_iff_eq, bne_iff_ne, ne_eq, beq_eq_false_iff_ne, bne_eq_false_iff_eq, Bool.not_eq_true', Bool.not_eq_false', Bool.not_eq_true, Bool.not_eq_false, Int.not_le, Int.not_lt, Bool.and_eq_true, Bool.or_eq_true, Bool.or_eq_false_iff, Bool.and_eq_false_iff] at h); (try (exfalso; omega))) | skip) | ((refine (?_ : ACall _ _ _ _ _ _ _)); first | ((apply abox (b3)); (focus (exact rfl)); (focus (exact rfl)); (focus (exact rfl)); (focus (repeat' (first | exact rfl | (refine And.intro ?_ ?_) | (simp; done) | omega))); (focus (repeat' (first | exact trivial | exact rfl | (refine And.intro ?_ ?_))))) | ((apply abox (d3)); (focus (exact rfl)); (focus (exact rfl)); (focus (exact rfl)); (focus (repeat' (first | exact rfl | (refine And.intro ?_ ?_) | (simp; done) | omega))); (focus (repeat' (first | exact trivial | exact rfl | (refine And.intro ?_ ?_))))) | ((apply abox (e3)); (focus (exact rfl)); (focus (exact rfl)); (focus (exact rfl)); (focus (repeat' (first | exact rfl | (refine And.intro ?_ ?_) | (simp; done) | omega))); (focus (repeat' (first | exact trivial | exact rfl | (refine And.intro ?_ ?_))))) | ((apply acall (hmk)); (focus (repeat' (first | exact rfl | (refine And.intro ?_ ?_) | (simp only [ints_len]; done) | (simp; done) | omega))))) | ((with_reducible refine (?_ : chk _ _ = true)); kernel_rfl) | ((with_reducible refine (?_ : (_ : IntKind) = _)); (with_reducible rfl)) | ((with_reducible refine (?_ : eqC (C.pvw _ _ _) (C.pvw _ _ _))); exact rfl) | ((with_reducible refine (?_ : eqC (C.pv (Value.int IntKind.u64 _)) _)); exact rfl) | exact trivial)
  · refine ⟨((n0, n1), (n2, n3), (n4, n5)), s1, ⟨by dsimp only at *; omega, by dsimp only at *; omega⟩, ?_⟩
    refine afun_intro fn28 rfl rfl (by repeat' (first | exact trivial | (simp; done) | refine ⟨?_, ?_⟩)) ?_
    unfold ac28
    repeat' (first | ((with_reducible refine (?_ : (_ : Bool) = _)); (with_reducible rfl)) | ((with_reducible refine (?_ : (_ : Nat × Nat) = _)); (with_reducible rfl)) | (with_reducible refine leafRI ?_) | (with_reducible refine leafRB ?_) | (with_reducible refine leafI ?_) | (with_reducible refine leafB ?_) | ((with_reducible refine (?_ : (_ : Int) = _)); (with_reducible rfl)) | ((with_reducible refine (?_ : (_ : List (List Value)) = _)); (with_reducible rfl)) | ((with_reducible refine (?_ : (_ : Int) ≠ 0)); (first | assumption | omega | (simp; done) | (simp only [ints_len] at *; omega) | (simp; omega))) | ((with_reducible refine (?_ : (_ : Int) ≤ _)); (first | assumption | omega | (simp; done) | (simp only [ints_len] at *; omega) | (simp; omega))) | ((with_reducible refine (?_ : (_ : Int) < _)); (first | assumption | omega | (simp; done) | (simp only [ints_len] at *; omega) | (simp; omega))) | ((with_reducible refine (?_ : (_ : Nat) ≤ _)); (first | omega | (simp only [List.length_cons, List.length_nil]; omega) | (simp [ints]; done) | (simp; omega))) | ((with_reducible refine (?_ : (_ : Nat) < _)); (first | omega | (simp only [List.length_cons, List.length_nil]; omega) | (simp [ints]; done) | (simp; omega))) | ((with_reducible refine (?_ : (_ : Nat) = _)); (first | (with_reducible rfl) | (simp; done) | (simp only [fr_len]) | (simp only [ints_len]) | omega | (simp [*]; done))) | (refine And.intro ?_ ?_) | (intro h; first | (exact Bool.noConfusion h) | ((simp only [decide_eq_true_eq, decide_eq_false_iff_not, beq_iff_eq, bne_iff_ne, ne_eq, beq_eq_false_iff_ne, bne_eq_false_iff_eq, Bool.not_eq_true', Bool.not_eq_false', Bool.not_eq_true, Bool.not_eq_false, Int.not_le, Int.not_lt, Bool.and_eq_true, Bool.or_eq_true, Bool.or_eq_false_iff, Bool.and_eq_false_iff] at h); (try (first | (exact Bool.noConfusion h) | (exact (h trivial).elim)))) | skip) | ((refine (?_ : ACall _ _ _ _ _ _ _)); first | ((apply abox (a3)); (focus (exact rfl)); (focus (exact rfl)); (focus (exact rfl)); (focus (repeat' (first | exact rfl | (refine And.intro ?_ ?_) | (simp; done) | omega))); (focus (repeat' (first | exact trivial | exact rfl | (refine And.intro ?_ ?_))))) | ((apply acall (spec_tpRootP)); (focus (repeat' (first | exact rfl | (refine And.intro ?_ ?_) | (simp only [ints_len]; done) | (simp; done) | omega)))) | ((apply acall (spec_tpRoot)); (focus (repeat' (first | exact rfl | (refine And.intro ?_ ?_) | (simp only [ints_len]; done) | (simp; done) | omega))))) | ((with_reducible refine (?_ : chk _ _ = true)); kernel_rfl) | ((with_reducible refine (?_ : (_ : IntKind) = _)); (with_reducible rfl)) | ((with_reducible refine (?_ : eqC (C.pvw _ _ _) (C.pvw _ _ _))); exact rfl) | ((with_reducible refine (?_ : eqC (C.pv (Value.int IntKind.u64 _)) _)); exact rfl) | exact trivial)
    refine loop_rule (σ := Int × Nat × ((Int × Int) × (Int × Int) × (Int × Int)) × (Int × Int)) (fun s => [(4, I s.1)]) (fun s => [((0, 0), Cx v l s.2.2.2), ((2, 0), .bx [cI 0, cI 0, cI 0, cI 0, cI 0, cI 0]), ((3, 0), .bx [cI s.2.2.1.1.1, cI s.2.2.1.1.2, cI s.2.2.1.2.1.1, cI s.2.2.1.2.1.2, cI s.2.2.1.2.2.1, cI s.2.2.1.2.2.2])]) (fun s => 0 ≤ s.1 ∧ s.1 + s.2.1 = k ∧ (s.2.2.1, s.2.2.2) = f s.2.1) (fun s => s.1.toNat) ((k, 0, rt6, s0)) ?_ (by repeat' (first | exact trivial | exact rfl | (refine And.intro ?_ ?_))) (by repeat' (first | exact trivial | exact rfl | (refine And.intro ?_ ?_))) (fun s => ⟨rfl, rfl⟩) (fun s i h => by first | exact absurd h (Nat.not_lt_zero i) | (cases i with | zero => rfl | succ i => exact absurd (Nat.lt_of_succ_lt_succ h) (Nat.not_lt_zero i))) ?_
    · exact ⟨by dsimp only; omega, by dsimp only; omega, f0.symm⟩
    rintro ⟨i, j, ⟨⟨m0, m1⟩, ⟨m2, m3⟩, ⟨m4, m5⟩⟩, ⟨c, cd⟩⟩ ⟨g1, g2, g3⟩
    dsimp only at g1 g2 g3 ⊢
    have w1 : wrap64 (i - 1) = i - 1 := wrap_small (by omega) (by omega)
    by_cases hi : 0 < i
    · obtain ⟨hg, u, q1, q2⟩ := hf2 j (by omega)
      rw [← g3] at hg q1 q2
      dsimp only at hg q1 q2
      have hst := spec_tpStep m0 m1 m2 m3 m4 m5 (wrap64 (1 + u)) hg
      rw [← q2] at hst
      generalize hy : f (j + 1) = y at *
      obtain ⟨⟨⟨x0, x1⟩, ⟨x2, x3⟩, ⟨x4, x5⟩⟩, ⟨yc, yd⟩⟩ := y
      dsimp only at q1 q2 hst
      repeat' (first | ((with_reducible refine (?_ : (_ : Bool) = _)); (with_reducible rfl)) | ((with_reducible refine (?_ : (_ : Nat × Nat) = _)); (with_reducible rfl)) | (with_reducible refine leafRI ?_) | (with_reducible refine leafRB ?_) | (with_reducible refine leafI ?_) | (with_reducible refine leafB ?_) | ((with_reducible refine (?_ : (_ : Int) = _)); (with_reducible rfl)) | ((with_reducible refine (?_ : (_ : List (List Value)) = _)); (with_reducible rfl)) | ((with_reducible refine (?_ : (_ : Int) ≠ 0)); (first | assumption | omega | (simp; done) | (simp only [ints_len] at *; omega) | (simp; omega))) | ((with_reducible refine (?_ : (_ : Int) ≤ _)); (first | assumption | omega | (simp; done) | (simp only [ints_len] at *; omega) | (simp; omega))) | ((with_reducible refine (?_ : (_ : Int) < _)); (first | assumption | omega | (simp; done) | (simp only [ints_len] at *; omega) | (simp; omega))) | ((with_reducible refine (?_ : (_ : Nat) ≤ _)); (first | omega | (simp only [List.length_cons, List.length_nil]; omega) | (simp [ints]; done) | (simp; omega))) | ((with_reducible refine (?_ : (_ : Nat) < _)); (first | omega | (simp only [List.length_cons, List.length_nil]; omega) | (simp [ints]; done) | (simp; omega))) | ((with_reducible refine (?_ : (_ : Nat) = _)); (first | (with_reducible rfl) | (simp; done) | (simp only [fr_len]) | (simp only [ints_len]) | omega | (simp [*]; done))) | (refine And.intro ?_ ?_) | (intro h; first | (exact Bool.noConfusion h) | ((simp only [decide_eq_true_eq, decide_eq_false_iff_not, beq_iff_eq, bne_iff_ne, ne_eq, beq_eq_false_iff_ne, bne_eq_false_iff_eq, Bool.not_eq_true', Bool.not_eq_false', Bool.not_eq_true, Bool.not_eq_false, Int.not_le, Int.not_lt, Bool.and_eq_true, Bool.or_eq_true, Bool.or_eq_false_iff, Bool.and_eq_false_iff] at h); (try (exfalso; omega))) | skip) | ((refine (?_ : ACall _ _ _ _ _ _ _)); first | ((apply abox (q1)); (focus (exact rfl)); (focus (exact rfl)); (focus (exact rfl)); (focus (repeat' (first | exact rfl | (refine And.intro ?_ ?_) | (simp; done) | omega))); (focus (repeat' (first | exact trivial | exact rfl | (refine And.intro ?_ ?_))))) | ((apply acall (hst)); (focus (repeat' (first | exact rfl | (refine And.intro ?_ ?_) | (simp only [ints_len]; done) | (simp; done) | omega))))) | ((with_reducible refine (?_ : chk _ _ = true)); kernel_rfl) | ((with_reducible refine (?_ : (_ : IntKind) = _)); (with_reducible rfl)) | ((with_reducible refine (?_ : eqC (C.pvw _ _ _) (C.pvw _ _ _))); exact rfl) | ((with_reducible refine (?_ : eqC (C.pv (Value.int IntKind.u64 _)) _)); exact rfl) | exact trivial)
      refine ⟨(_, j + 1, ((_, _), (_, _), (_, _)), (_, _)), ?_, ?_, none, And.intro rfl (And.intro (by repeat' (first | exact trivial | exact rfl | (refine And.intro ?_ ?_))) (by repeat' (first | exact trivial | exact rfl | (refine And.intro ?_ ?_))))⟩
      · dsimp only
        rw [w1]
        exact ⟨by omega, by omega, hy.symm⟩
      · dsimp only
        rw [w1]; omega
    · have hj : k.toNat = j := by omega
      rw [hj, ← g3] at hfk
      simp only [Prod.mk.injEq] at hfk
      obtain ⟨⟨⟨rfl, rfl⟩, ⟨rfl, rfl⟩, ⟨rfl, rfl⟩⟩, rfl, rfl⟩ := hfk
      repeat' (first | ((with_reducible refine (?_ : (_ : Bool) = _)); (with_reducible rfl)) | ((with_reducible refine (?_ : (_ : Nat × Nat) = _)); (with_reducible rfl)) | (with_reducible refine leafRI ?_) | (with_reducible refine leafRB ?_) | (with_reducible refine leafI ?_) | (with_reducible refine leafB ?_) | ((with_reducible refine (?_ : (_ : Int) = _)); (with_reducible rfl)) | ((with_reducible refine (?_ : (_ : List (List Value)) = _)); (with_reducible rfl)) | ((with_reducible refine (?_ : (_ : Int) ≠ 0)); (first | assumption | omega | (simp; done) | (simp only [ints_len] at *; omega) | (simp; omega))) | ((with_reducible refine (?_ : (_ : Int) ≤ _)); (first | assumption | omega | (simp; done) | (simp only [ints_len] at *; omega) | (simp; omega))) | ((with_reducible refine (?_ : (_ : Int) < _)); (first | assumption | omega | (simp; done) | (simp only [ints_len] at *; omega) | (simp; omega))) | ((with_reducible refine (?_ : (_ : Nat) ≤ _)); (first | omega | (simp only [List.length_cons, List.length_nil]; omega) | (simp [ints]; done) | (simp; omega))) | ((with_reducible refine (?_ : (_ : Nat) < _)); (first | omega | (simp only [List.length_cons, List.length_nil]; omega) | (simp [ints]; done) | (simp; omega))) | ((with_reducible refine (?_ : (_ : Nat) = _)); (first | (with_reducible rfl) | (simp; done) | (simp only [fr_len]) | (simp only [ints_len]) | omega | (simp [*]; done))) | (refine And.intro ?_ ?_) | (intro h; first | (exact Bool.noConfusion h) | ((simp only [decide_eq_true_eq, decide_eq_false_iff_not, beq_iff_eq, bne_iff_ne, ne_eq, beq_eq_false_iff_ne, bne_eq_false_iff_eq, Bool.not_eq_true', Bool.not_eq_false', Bool.not_eq_true, Bool.not_eq_false, Int.not_le, Int.not_lt, Bool.and_eq_true, Bool.or_eq_true, Bool.or_eq_false_iff, Bool.and_eq_false_iff] at h); (try (exfalso; omega))) | skip) | ((refine (?_ : ACall _ _ _ _ _ _ _)); first | ((apply abox (b3)); (focus (exact rfl)); (focus (exact rfl)); (focus (exact rfl)); (focus (repeat' (first | exact rfl | (refine And.intro ?_ ?_) | (simp; done) | omega))); (focus (repeat' (first | exact trivial | exact rfl | (refine And.intro ?_ ?_))))) | ((apply acall (spec_tpRootP)); (focus (repeat' (first | exact rfl | (refine And.intro ?_ ?_) | (simp only [ints_len]; done) | (simp; done) | omega)))) | ((apply acall (spec_tpRoot)); (focus (repeat' (first | exact rfl | (refine And.intro ?_ ?_) | (simp only [ints_len]; done) | (simp; done) | omega))))) | ((with_reducible refine (?_ : chk _ _ = true)); kernel_rfl) | ((with_reducible refine (?_ : (_ : IntKind) = _)); (with_reducible rfl)) | ((with_reducible refine (?_ : eqC (C.pvw _ _ _) (C.pvw _ _ _))); exact rfl) | ((with_reducible refine (?_ : eqC (C.pv (Value.int IntKind.u64 _)) _)); exact rfl) | exact trivial)

theorem DrawPathTo_ex (v : Value) (l : List Int) (hl : BysOk l) : ∃ x y, I64 x ∧ I64 y ∧ AFun Try.prog 5 [] [.c (.pvw v 1 (byts l))] (Po2 x y) [] [] := by
  obtain ⟨t, s1, a1, a2, a3⟩ := pick_ex v l hl 4 (by omega) (0, 0) (cv_zero (by omega))
  dsimp only at a2
  obtain ⟨x1, s2, b1, b2, b3⟩ := pick_ex v l hl 203 (by omega) s1 ⟨by omega, by omega⟩
  obtain ⟨x2, s3, d1, d2, d3⟩ := pick_ex v l hl 203 (by omega) s2 ⟨by omega, by omega⟩
  obtain ⟨px, py, s4, p1, p2, p3, p4⟩ := plain_ex v l hl s1 ⟨by omega, by omega⟩
  obtain ⟨m, s5, q1, q2, q3⟩ := proper_ex v l hl s1 ⟨by omega, by omega⟩
  have cases : t = 0 ∨ t = 1 ∨ 2 ≤ t := by omega
  rcases cases with ht | ht | ht
  · refine ⟨wrap64 (x1 - 101), wrap64 (x2 - 101), I64_wrap _, I64_wrap _, ?_⟩
    refine afun_intro fn5 rfl rfl (by repeat' (first | exact trivial | (simp; done) | refine ⟨?_, ?_⟩)) ?_
    unfold ac5
    repeat' (first | ((with_reducible refine (?_ : (_ : Bool) = _)); (with_reducible rfl)) | ((with_reducible refine (?_ : (_ : Nat × Nat) = _)); (with_reducible rfl)) | (with_reducible refine leafRI ?_) | (with_reducible refine leafRB ?_) | (with_reducible refine leafI ?_) | (with_reducible refine leafB ?_) | ((with_reducible refine (?_ : (_ : Int) = _)); (with_reducible rfl)) | ((with_reducible refine (?_ : (_ : List (List Value)) = _)); (with_reducible rfl)) | ((with_reducible refine (?_ : (_ : Int) ≠ 0)); (first | assumption | omega | (simp; done) | (simp only [ints_len] at *; omega) | (simp; omega))) | ((with_reducible refine (?_ : (_ : Int) ≤ _)); (first | assumption | omega | (simp; done) | (simp only [ints_len] at *; omega) | (simp; omega))) | ((with_reducible refine (?_ : (_ : Int) < _)); (first | assumption | omega | (simp; done) | (simp only [ints_len] at *; omega) | (simp; omega))) | ((with_reducible refine (?_ : (_ : Nat) ≤ _)); (first | omega | (simp only [List.length_cons, List.length_nil]; omega) | (simp [ints]; done) | (simp; omega))) | ((with_reducible refine (?_ : (_ : Nat) < _)); (first | omega | (simp only [List.length_cons, List.length_nil]; omega) | (simp [ints]; done) | (simp; omega))) | ((with_reducible refine (?_ : (_ : Nat) = _)); (first | (with_reducible rfl) | (simp; done) | (simp only [fr_len]) | (simp only [ints_len]) | omega | (simp [*]; done))) | (refine And.intro ?_ ?_) | (intro h; first | (exact Bool.noConfusion h) | ((simp only [decide_eq_true_eq, decide_eq_false_iff_not, beq_iff_eq, bne_iff_ne, ne_eq, beq_eq_false_iff_ne, bne_eq_false_iff_eq, Bool.not_eq_true', Bool.not_eq_false', Bool.not_eq_true, Bool.not_eq_false, Int.not_le, Int.not_lt, Bool.and_eq_true, Bool.or_eq_true, Bool.or_eq_false_iff, Bool.and_eq_false_iff] at h); (try (exfalso; omega))) | skip) | ((refine (?_ : ACall _ _ _ _ _ _ _)); first | ((apply abox (a3)); (focus (exact rfl)); (focus (exact rfl)); (focus (exact rfl)); (focus (repeat' (first | exact rfl | (refine And.intro ?_ ?_) | (simp; done) | omega))); (focus (repeat' (first | exact trivial | exact rfl | (refine And.intro ?_ ?_))))) | ((apply abox (b3)); (focus (exact rfl)); (focus (exact rfl)); (focus (exact rfl)); (focus (repeat' (first | exact rfl | (refine And.intro ?_ ?_) | (simp; done) | omega))); (focus (repeat' (first | exact trivial | exact rfl | (refine And.intro ?_ ?_))))) | ((apply abox (d3)); (focus (exact rfl)); (focus (exact rfl)); (focus (exact rfl)); (focus (repeat' (first | exact rfl | (refine And.intro ?_ ?_) | (simp; done) | omega))); (focus (repeat' (first | exact trivial | exact rfl | (refine And.intro ?_ ?_)))))) | ((with_reducible refine (?_ : chk _ _ = true)); kernel_rfl) | ((with_reducible refine (?_ : (_ : IntKind) = _)); (with_reducible rfl)) | ((with_reducible refine (?_ : eqC (C.pvw _ _ _) (C.pvw _ _ _))); exact rfl) | ((with_reducible refine (?_ : eqC (C.pv (Value.int IntKind.u64 _)) _)); exact rfl) | exact trivial)
  · refine ⟨px, py, p1, p2, ?_⟩
    refine afun_intro fn5 rfl rfl (by repeat' (first | exact trivial | (simp; done) | refine ⟨?_, ?_⟩)) ?_
    unfold ac5
    repeat' (first | ((with_reducible refine (?_ : (_ : Bool) = _)); (with_reducible rfl)) | ((with_reducible refine (?_ : (_ : Nat × Nat) = _)); (with_reducible rfl)) | (with_reducible refine leafRI ?_) | (with_reducible refine leafRB ?_) | (with_reducible refine leafI ?_) | (with_reducible refine leafB ?_) | ((with_reducible refine (?_ : (_ : Int) = _)); (with_reducible rfl)) | ((with_reducible refine (?_ : (_ : List (List Value)) = _)); (with_reducible rfl)) | ((with_reducible refine (?_ : (_ : Int) ≠ 0)); (first | assumption | omega | (simp; done) | (simp only [ints_len] at *; omega) | (simp; omega))) | ((with_reducible refine (?_ : (_ : Int) ≤ _)); (first | assumption | omega | (simp; done) | (simp only [ints_len] at *; omega) | (simp; omega))) | ((with_reducible refine (?_ : (_ : Int) < _)); (first | assumption | omega | (simp; done) | (simp only [ints_len] at *; omega) | (simp; omega))) | ((with_reducible refine (?_ : (_ : Nat) ≤ _)); (first | omega | (simp only [List.length_cons, List.length_nil]; omega) | (simp [ints]; done) | (simp; omega))) | ((with_reducible refine (?_ : (_ : Nat) < _)); (first | omega | (simp only [List.length_cons, List.length_nil]; omega) | (simp [ints]; done) | (simp; omega))) | ((with_reducible refine (?_ : (_ : Nat) = _)); (first | (with_reducible rfl) | (simp; done) | (simp only [fr_len]) | (simp only [ints_len]) | omega | (simp [*]; done))) | (refine And.intro ?_ ?_) | (intro h; first | (exact Bool.noConfusion h) | ((simp only [decide_eq_true_eq, decide_eq_false_iff_not, beq_iff_eq, bne_iff_ne, ne_eq, beq_eq_false_iff_ne, bne_eq_false_iff_eq, Bool.not_eq_true', Bool.not_eq_false', Bool.not_eq_true, Bool.not_eq_false, Int.not_le, Int.not_lt, Bool.and_eq_true, Bool.or_eq_true, Bool.or_eq_false_iff, Bool.and_eq_false_iff] at h); (try (exfalso; omega))) | skip) | ((refine (?_ : ACall _ _ _ _ _ _ _)); first | ((apply abox (a3)); (focus (exact rfl)); (focus (exact rfl)); (focus (exact rfl)); (focus (repeat' (first | exact rfl | (refine And.intro ?_ ?_) | (simp; done) | omega))); (focus (repeat' (first | exact trivial | exact rfl | (refine And.intro ?_ ?_))))) | ((apply abox (p4)); (focus (exact rfl)); (focus (exact rfl)); (focus (exact rfl)); (focus (repeat' (first | exact rfl | (refine And.intro ?_ ?_) | (simp; done) | omega))); (focus (repeat' (first | exact trivial | exact rfl | (refine And.intro ?_ ?_)))))) | ((with_reducible refine (?_ : chk _ _ = true)); kernel_rfl) | ((with_reducible refine (?_ : (_ : IntKind) = _)); (with_reducible rfl)) | ((with_reducible refine (?_ : eqC (C.pvw _ _ _) (C.pvw _ _ _))); exact rfl) | ((with_reducible refine (?_ : eqC (C.pv (Value.int IntKind.u64 _)) _)); exact rfl) | exact trivial)
  · refine ⟨m.1, m.2.2.1, q1.1, q1.2.2.1, ?_⟩
    refine afun_intro fn5 rfl rfl (by repeat' (first | exact trivial | (simp; done) | refine ⟨?_, ?_⟩)) ?_
    unfold ac5
    repeat' (first | ((with_reducible refine (?_ : (_ : Bool) = _)); (with_reducible rfl)) | ((with_reducible refine (?_ : (_ : Nat × Nat) = _)); (with_reducible rfl)) | (with_reducible refine leafRI ?_) | (with_reducible refine leafRB ?_) | (with_reducible refine leafI ?_) | (with_reducible refine leafB ?_) | ((with_reducible refine (?_ : (_ : Int) = _)); (with_reducible rfl)) | ((with_reducible refine (?_ : (_ : List (List Value)) = _)); (with_reducible rfl)) | ((with_reducible refine (?_ : (_ : Int) ≠ 0)); (first | assumption | omega | (simp; done) | (simp only [ints_len] at *; omega) | (simp; omega))) | ((with_reducible refine (?_ : (_ : Int) ≤ _)); (first | assumption | omega | (simp; done) | (simp only [ints_len] at *; omega) | (simp; omega))) | ((with_reducible refine (?_ : (_ : Int) < _)); (first | assumption | omega | (simp; done) | (simp only [ints_len] at *; omega) | (simp; omega))) | ((with_reducible refine (?_ : (_ : Nat) ≤ _)); (first | omega | (simp only [List.length_cons, List.length_nil]; omega) | (simp [ints]; done) | (simp; omega))) | ((with_reducible refine (?_ : (_ : Nat) < _)); (first | omega | (simp only [List.length_cons, List.length_nil]; omega) | (simp [ints]; done) | (simp; omega))) | ((with_reducible refine (?_ : (_ : Nat) = _)); (first | (with_reducible rfl) | (simp; done) | (simp only [fr_len]) | (simp only [ints_len]) | omega | (simp [*]; done))) | (refine And.intro ?_ ?_) | (intro h; first | (exact Bool.noConfusion h) | ((simp only [decide_eq_true_eq, decide_eq_false_iff_not, beq_iff_eq, bne_iff_ne, ne_eq, beq_eq_false_iff_ne, bne_eq_false_iff_eq, Bool.not_eq_true', Bool.not_eq_false', Bool.not_eq_true, Bool.not_eq_false, Int.not_le, Int.not_lt, Bool.and_eq_true, Bool.or_eq_true, Bool.or_eq_false_iff, Bool.and_eq_false_iff] at h); (try (exfalso; omega))) | skip) | ((refine (?_ : ACall _ _ _ _ _ _ _)); first | ((apply abox (a3)); (focus (exact rfl)); (focus (exact rfl)); (focus (exact rfl)); (focus (repeat' (first | exact rfl | (refine And.intro ?_ ?_) | (simp; done) | omega))); (focus (repeat' (first | exact trivial | exact rfl | (refine And.intro ?_ ?_))))) | ((apply abox (q3)); (focus (exact rfl)); (focus (exact rfl)); (focus (exact rfl)); (focus (repeat' (first | exact rfl | (refine And.intro ?_ ?_) | (simp; done) | omega))); (focus (repeat' (first | exact trivial | exact rfl | (refine And.intro ?_ ?_)))))) | ((with_reducible refine (?_ : chk _ _ = true)); kernel_rfl) | ((with_reducible refine (?_ : (_ : IntKind) = _)); (with_reducible rfl)) | ((with_reducible refine (?_ : eqC (C.pvw _ _ _) (C.pvw _ _ _))); exact rfl) | ((with_reducible refine (?_ : eqC (C.pv (Value.int IntKind.u64 _)) _)); exact rfl) | exact trivial)

theorem DrawStepNode_ex (v : Value) (l : List Int) (hl : BysOk l) : ∃ (n : N6) (i : Int), AFun Try.prog 10 [] [.c (.pvw v 1 (byts l))] (.tup [(true, [cI n.1.1, cI n.1.2, cI n.2.1.1, cI n.2.1.2, cI n.2.2.1, cI n.2.2.2]), (false, [cI i])]) [] [] := by
  obtain ⟨n, s1, a2, a3⟩ := node_ex v l hl (0, 0) (cv_zero (by omega))
  dsimp only at a2
  obtain ⟨i, s2, b1, b2, b3⟩ := among_ex v l hl [1, 2, 3, 1, 2, 3, 0, 4] (by simp) (by simp) s1 ⟨by omega, by omega⟩
  refine ⟨n, i, ?_⟩
  refine afun_intro fn10 rfl rfl (by repeat' (first | exact trivial | (simp; done) | refine ⟨?_, ?_⟩)) ?_
  unfold ac10
  repeat' (first | ((with_reducible refine (?_ : (_ : Bool) = _)); (with_reducible rfl)) | ((with_reducible refine (?_ : (_ : Nat × Nat) = _)); (with_reducible rfl)) | (with_reducible refine leafRI ?_) | (with_reducible refine leafRB ?_) | (with_reducible refine leafI ?_) | (with_reducible refine leafB ?_) | ((with_reducible refine (?_ : (_ : Int) = _)); (with_reducible rfl)) | ((with_reducible refine (?_ : (_ : List (List Value)) = _)); (with_reducible rfl)) | ((with_reducible refine (?_ : (_ : Int) ≠ 0)); (first | assumption | omega | (simp; done) | (simp only [ints_len] at *; omega) | (simp; omega))) | ((with_reducible refine (?_ : (_ : Int) ≤ _)); (first | assumption | omega | (simp; done) | (simp only [ints_len] at *; omega) | (simp; omega))) | ((with_reducible refine (?_ : (_ : Int) < _)); (first | assumption | omega | (simp; done) | (simp only [ints_len] at *; omega) | (simp; omega))) | ((with_reducible refine (?_ : (_ : Nat) ≤ _)); (first | omega | (simp only [List.length_cons, List.length_nil]; omega) | (simp [ints]; done) | (simp; omega))) | ((with_reducible refine (?_ : (_ : Nat) < _)); (first | omega | (simp only [List.length_cons, List.length_nil]; omega) | (simp [ints]; done) | (simp; omega))) | ((with_reducible refine (?_ : (_ : Nat) = _)); (first | (with_reducible rfl) | (simp; done) | (simp only [fr_len]) | (simp only [ints_len]) | omega | (simp [*]; done))) | (refine And.intro ?_ ?_) | (intro h; first | (exact Bool.noConfusion h) | ((simp only [decide_eq_true_eq, decide_eq_false_iff_not, beq_iff_eq, bne_iff_ne, ne_eq, beq_eq_false_iff_ne, bne_eq_false_iff_eq, Bool.not_eq_true', Bool.not_eq_false', Bool.not_eq_true, Bool.not_eq_false, Int.not_le, Int.not_lt, Bool.and_eq_true, Bool.or_eq_true, Bool.or_eq_false_iff, Bool.and_eq_false_iff] at h); (try (first | (exact Bool.noConfusion h) | (exact (h trivial).elim)))) | skip) | ((refine (?_ : ACall _ _ _ _ _ _ _)); first | ((apply abox (a3)); (focus (exact rfl)); (focus (exact rfl)); (focus (exact rfl)); (focus (repeat' (first | exact rfl | (refine And.intro ?_ ?_) | (simp; done) | omega))); (focus (repeat' (first | exact trivial | exact rfl | (refine And.intro ?_ ?_))))) | ((apply abox (b3)); (focus (exact rfl)); (focus (exact rfl)); (focus (exact rfl)); (focus (repeat' (first | exact rfl | (refine And.intro ?_ ?_) | (simp; done) | omega))); (focus (repeat' (first | exact trivial | exact rfl | (refine And.intro ?_ ?_)))))) | ((with_reducible refine (?_ : chk _ _ = true)); kernel_rfl) | ((with_reducible refine (?_ : (_ : IntKind) = _)); (with_reducible rfl)) | ((with_reducible refine (?_ : eqC (C.pvw _ _ _) (C.pvw _ _ _))); exact rfl) | ((with_reducible refine (?_ : eqC (C.pv (Value.int IntKind.u64 _)) _)); exact rfl) | exact trivial)

theorem DrawNodeValues_ex (v : Value) (l : List Int) (hl : BysOk l) : ∃ (a b c : Int) (n : N6), I64 a ∧ I64 b ∧ I64 c ∧ AFun Try.prog 13 [] [.c (.pvw v 1 (byts l))] (.tup [(true, [cI a, cI b, cI c]), (true, [cI n.1.1, cI n.1.2, cI n.2.1.1, cI n.2.1.2, cI n.2.2.1, cI n.2.2.2])]) [] [] := by
  obtain ⟨a, b, c, s1, h1, h2, h3, a2, a3⟩ := form_ex v l hl (0, 0) (cv_zero (by omega))
  dsimp only at a2
  obtain ⟨n, s2, b2, b3⟩ := node_ex v l hl s1 ⟨by omega, by omega⟩
  refine ⟨a, b, c, n, h1, h2, h3, ?_⟩
  refine afun_intro fn13 rfl rfl (by repeat' (first | exact trivial | (simp; done) | refine ⟨?_, ?_⟩)) ?_
  unfold ac13
  repeat' (first | ((with_reducible refine (?_ : (_ : Bool) = _)); (with_reducible rfl)) | ((with_reducible refine (?_ : (_ : Nat × Nat) = _)); (with_reducible rfl)) | (with_reducible refine leafRI ?_) | (with_reducible refine leafRB ?_) | (with_reducible refine leafI ?_) | (with_reducible refine leafB ?_) | ((with_reducible refine (?_ : (_ : Int) = _)); (with_reducible rfl)) | ((with_reducible refine (?_ : (_ : List (List Value)) = _)); (with_reducible rfl)) | ((with_reducible refine (?_ : (_ : Int) ≠ 0)); (first | assumption | omega | (simp; done) | (simp only [ints_len] at *; omega) | (simp; omega))) | ((with_reducible refine (?_ : (_ : Int) ≤ _)); (first | assumption | omega | (simp; done) | (simp only [ints_len] at *; omega) | (simp; omega))) | ((with_reducible refine (?_ : (_ : Int) < _)); (first | assumption | omega | (simp; done) | (simp only [ints_len] at *; omega) | (simp; omega))) | ((with_reducible refine (?_ : (_ : Nat) ≤ _)); (first | omega | (simp only [List.length_cons, List.length_nil]; omega) | (simp [ints]; done) | (simp; omega))) | ((with_reducible refine (?_ : (_ : Nat) < _)); (first | omega | (simp only [List.length_cons, List.length_nil]; omega) | (simp [ints]; done) | (simp; omega))) | ((with_reducible refine (?_ : (_ : Nat) = _)); (first | (with_reducible rfl) | (simp; done) | (simp only [fr_len]) | (simp only [ints_len]) | omega | (simp [*]; done))) | (refine And.intro ?_ ?_) | (intro h; first | (exact Bool.noConfusion h) | ((simp only [decide_eq_true_eq, decide_eq_false_iff_not, beq_iff_eq, bne_iff_ne, ne_eq, beq_eq_false_iff_ne, bne_eq_false_iff_eq, Bool.not_eq_true', Bool.not_eq_false', Bool.not_eq_true, Bool.not_eq_false, Int.not_le, Int.not_lt, Bool.and_eq_true, Bool.or_eq_true, Bool.or_eq_false_iff, Bool.and_eq_false_iff] at h); (try (first | (exact Bool.noConfusion h) | (exact (h trivial).elim)))) | skip) | ((refine (?_ : ACall _ _ _ _ _ _ _)); first | ((apply abox (a3)); (focus (exact rfl)); (focus (exact rfl)); (focus (exact rfl)); (focus (repeat' (first | exact rfl | (refine And.intro ?_ ?_) | (simp; done) | omega))); (focus (repeat' (first | exact trivial | exact rfl | (refine And.intro ?_ ?_))))) | ((apply abox (b3)); (focus (exact rfl)); (focus (exact rfl)); (focus (exact rfl)); (focus (repeat' (first | exact rfl | (refine And.intro ?_ ?_) | (simp; done) | omega))); (focus (repeat' (first | exact trivial | exact rfl | (refine And.intro ?_ ?_)))))) | ((with_reducible refine (?_ : chk _ _ = true)); kernel_rfl) | ((with_reducible refine (?_ : (_ : IntKind) = _)); (with_reducible rfl)) | ((with_reducible refine (?_ : eqC (C.pvw _ _ _) (C.pvw _ _ _))); exact rfl) | ((with_reducible refine (?_ : eqC (C.pv (Value.int IntKind.u64 _)) _)); exact rfl) | exact trivial)

end Go.Proofs.Ytemlkfcbcphenaa

/-! Laws of which the arguments are slices of bytes. -/
namespace Go.Proofs.Ytemlkfcbcphenaa
open Go.RowKit Go.ChangeShapes Go.WideShapes Go.ChangeAt Go.Joins Go.Deep

/-- A slice of bytes that came in. -/
structure CameB (w : World) (l : List Int) (v : Value) : Prop where
  view : ViewOk w (fun k => k < w.heap.size) 1 (byts l) v
  byte : ∀ n ∈ l, 0 ≤ n ∧ n ≤ 255
  len : l.length ≤ 9223372036854775807

theorem cameb_of_trod {H : Type} {enc : TypeId × Value → H} {P : Program} {w : World} {spare : Nat → Bool} {held : Bool} {t e : TypeId} {fuel : Nat} {cs : List Value} {x : DataW H × List MemPlace}
    (ht : P.underlying t = some (.slice e)) (he : P.underlying e = some (.int .u8)) (hc : P.cellsOf e = 1) (h : DataW.trod enc P w 0 spare held fuel t cs = some x) :
    ∃ v l, cs = [v] ∧ CameB w l v := by
  rcases open_ints ht he hc h with ⟨rfl, _⟩ | ⟨a, len, cap, zs, rfl, _, hl, hm, hz, _, hcell, hwf⟩
  · exact ⟨_, [], rfl, ⟨none, 0, rfl, Nat.le_refl _, by simp [byts], by simp [byts], fun h => absurd rfl h⟩, by simp, by simp⟩
  · have hlz : len ≤ zs.length := by rw [hz]; split <;> omega
    have hlen : (zs.take len).length = len := by simp; omega
    refine ⟨_, zs.take len, rfl, ?_, fun n hn => ?_, by rw [hlen]; (have : maxLen = 9223372036854775807 := rfl); omega⟩
    · refine ⟨some a, cap, by rw [byts, List.length_map, hlen], by simp [byts]; omega, ?_, ?_, fun hne => ?_⟩
      · intro r hr
        obtain ⟨n, _, rfl⟩ := List.mem_map.1 hr
        rfl
      · intro r hr v hv
        obtain ⟨n, _, rfl⟩ := List.mem_map.1 hr
        simp at hv
        subst hv
        rfl
      · have h0 : 0 < zs.length := by
          cases zs with
          | nil => simp [byts] at hne
          | cons _ _ => simp
        have c0 := hcell 0 h0
        obtain ⟨b, o, sp⟩ := a
        have hsp : sp = none := by
          cases sp with
          | none => rfl
          | some s =>
            simp only [Addr.add, if_true, World.cell?] at c0
            split at c0
            · simp at c0
            · cases c0
        subst hsp
        have hb : b < w.heap.size := by
          rw [Addr.add_lit] at c0
          simp only [World.cell?] at c0
          split at c0
          · rename_i hh
            exact (Array.getElem?_eq_some_iff.1 hh).1
          · cases c0
        refine ⟨b, o, rfl, hb, fun i r j v hi hj => ?_⟩
        rw [byts, List.getElem?_map] at hi
        cases hzi : (zs.take len)[i]? with
        | none => rw [hzi] at hi; cases hi
        | some n =>
          rw [hzi] at hi
          simp at hi
          subst hi
          cases j with
          | succ j => simp at hj
          | zero =>
            simp at hj
            subst hj
            obtain ⟨hi1, hi2⟩ := List.getElem?_eq_some_iff.1 hzi
            have hi3 : i < zs.length := by rw [hlen] at hi1; omega
            have := hcell i hi3
            rw [Addr.add_lit] at this
            rw [Nat.mul_one, Nat.add_zero, this]
            have e : zs.getD i 0 = n := by
              rw [List.getElem_take] at hi2
              simp [List.getD_eq_getElem?_getD, hi3, hi2]
            rw [e]
    · have := hwf n (List.mem_of_mem_take hn)
      simp [Lit.wf, IntKind.min, IntKind.max, IntKind.signed, IntKind.bits] at this
      omega

/-- A slice of bytes, an argument of its own. -/
theorem cameb_arg {H : Type} {enc : TypeId × Value → H} {P : Program} {w : World} {spare : Nat → Bool} {held : Bool} {t e : TypeId} {v : Value} {r : Reach} {b0 : Nat} {d : DataW H} {ps : List MemPlace}
    (ht : P.underlying t = some (.slice e)) (he : P.underlying e = some (.int .u8)) (hc : P.cellsOf e = 1) (hval : Value.okWide P w r b0 t v) (h : DataW.Trod enc P w 0 spare held t v d ps) :
    ∃ l, CameB w l v := by
  obtain ⟨a, len, cap, rfl⟩ := okWide_slice ht hval
  obtain ⟨fuel, hf⟩ := h
  obtain ⟨v', l, hv, h1⟩ := cameb_of_trod ht he hc hf
  simp [Value.cells] at hv
  subst hv
  exact ⟨l, h1⟩

end Go.Proofs.Ytemlkfcbcphenaa

/-! Paths: a step back leads to the node before; the path leads to a node with the region; the value of a new region. -/
namespace Go.Proofs.Ytemlkfcbcphenaa
open Go.RowKit
set_option linter.unusedSimpArgs false
set_option linter.unusedVariables false
set_option maxRecDepth 100000

/-! a step back -/
theorem neg_pt {o r : P2} {z : Int} (hz : z = 1 ∨ z = -1) (h : r = (z * o.1, z * o.2)) (ho : 0 < o.1 ∨ (o.1 = 0 ∧ 0 ≤ o.2)) (hr : 0 < r.1 ∨ (r.1 = 0 ∧ 0 ≤ r.2)) : r = o := by
  subst h
  dsimp only at hr
  rcases hz with rfl | rfl <;> apply Prod.ext <;> dsimp only <;> omega
theorem stR_back {s : N6} (S : SG s) (hr : Nm2 (stR s)) : SG (stR s, s.2.1, s.2.2) ∧ stR (stR s, s.2.1, s.2.2) = s.1 := by
  have R := stR_NR S
  obtain ⟨o, p, q⟩ := s
  generalize hre : stR (o, p, q) = r at *
  obtain ⟨ro, rp, rq, lt, dpq, dpo, dqo⟩ := S
  obtain ⟨⟨t, ht, z, hz, h1, z', hz', h2⟩, hs⟩ := R
  dsimp only at *
  have d1 : det p r = z * t * det p q := by rw [h1]; unfold det; grind
  have d2 : det q r = -z * det p q := by rw [h1]; unfold det; grind
  have e1 : det p r = 1 ∨ det p r = -1 := by rw [d1]; exact pm_mul (pm_mul hz ht) dpq
  have e2 : det q r = 1 ∨ det q r = -1 := by rw [d2]; exact pm_mul (by omega) dpq
  have hg : Rg r := by
    refine ⟨hr, gcd_of_det e1, ?_⟩
    rcases hs with h | ⟨h, h'⟩
    · exact .inl h
    · refine .inr ⟨h, ?_⟩
      have : p.1 * r.2 = 1 ∨ p.1 * r.2 = -1 := by
        unfold det at e1; rw [h] at e1; simpa using e1
      exact unit_of this h'
  have S' : SG (r, p, q) := ⟨hg, rp, rq, lt, dpq, e1, e2⟩
  refine ⟨S', ?_⟩
  have R' := stR_NR S'
  generalize stR (r, p, q) = x at *
  obtain ⟨⟨t', ht', y, hy, k1, y', hy', k2⟩, ks⟩ := R'
  dsimp only at *
  -- r = y' (p - t' q)
  have f1 : det p r = -(y' * t') * det p q := by rw [k2]; unfold det; grind
  have f2 : det q r = -y' * det p q := by rw [k2]; unfold det; grind
  have hyz : y' = z := by
    rw [d2] at f2
    rcases dpq with e | e <;> rw [e] at f2 <;> omega
  have htt : t' = -t := by
    rw [d1, hyz] at f1
    rcases dpq with e | e <;> rw [e] at f1 <;> rcases hz with rfl | rfl <;> omega
  have so : 0 < o.1 ∨ (o.1 = 0 ∧ 0 ≤ o.2) := by rcases ro.s with h | h <;> omega
  refine neg_pt (z := y * z') (pm_mul hy hz') ?_ so ks
  rw [k1, h2, htt]
  apply Prod.ext <;> dsimp only <;> rcases hy with rfl | rfl <;> rcases hz' with rfl | rfl <;> rcases ht with rfl | rfl <;> omega

/-- Where a point is put among two others. -/
theorem mkN_spl {p q r : P2} (hpq : ltP p q = true) (h1 : p ≠ r) (h2 : q ≠ r) : ∃ j : Int, 1 ≤ j ∧ j ≤ 3 ∧ spl (mkN p q r) j = (r, p, q) := by
  unfold mkN
  split
  · split
    · exact ⟨3, by omega, by omega, rfl⟩
    · exact ⟨2, by omega, by omega, rfl⟩
  · exact ⟨1, by omega, by omega, rfl⟩
theorem mkN_of_spl {n : N6} (h : NG n) (i : Int) : mkN (spl n i).2.1 (spl n i).2.2 (spl n i).1 = n := by
  obtain ⟨u, v, w⟩ := n
  have h4 := h.uv
  have h5 := h.vw
  dsimp only at h4 h5
  have h6 := ltP_trans h4 h5
  have a := ltP_irr h4
  have b := ltP_irr h5
  unfold spl
  split
  · simp [mkN, a]
  · split
    · simp [mkN, h4, b]
    · simp [mkN, h6, h5]
theorem det_ne {p r : P2} (h : det p r = 1 ∨ det p r = -1) : p ≠ r := fun e => by subst e; rw [det_self] at h; omega
theorem step_back {n : N6} {i : Int} (h : snG n i = true) : ∃ j : Int, 1 ≤ j ∧ j ≤ 3 ∧ snG (nstp n i) j = true ∧ nstp (nstp n i) j = n := by
  have hm := snG_NG h
  simp only [snG, Bool.and_eq_true, decide_eq_true_eq] at h
  have hn := ndG_iff.1 h.1.1
  have hr := num2_iff.1 h.2
  have S := spl_SG i hn
  obtain ⟨S', hb⟩ := stR_back S hr
  have e : nstp n i = mkN (spl n i).2.1 (spl n i).2.2 (stR (spl n i)) := rfl
  obtain ⟨j, j1, j2, hj⟩ := mkN_spl S.lt (det_ne S'.dpo) (det_ne S'.dqo)
  rw [← e] at hj
  refine ⟨j, j1, j2, ?_, ?_⟩
  · simp only [snG, Bool.and_eq_true, decide_eq_true_eq]
    exact ⟨⟨ndG_iff.2 hm, j1, j2⟩, by rw [hj, hb]; exact num2_iff.2 S.ro.nm⟩
  · have e2 : nstp (nstp n i) j = stS (spl (nstp n i) j) := rfl
    rw [e2, hj]
    show mkN _ _ (stR _) = n
    dsimp only
    rw [hb]
    exact mkN_of_spl hn i

/-! the path -/
def hasP (t : P2) (n : N6) : Prop := t = n.1 ∨ t = n.2.1 ∨ t = n.2.2
theorem tow_zero {t : P2} {n : N6} (h : tow t n = 0) : hasP t n := by
  unfold tow at h
  split at h
  · assumption
  · split at h
    · omega
    · split at h <;> omega
theorem way_walk {t : P2} (ht : Rg t) (hs : Sm t) {n : N6} {l : List Int} (w : Way t n l) : PV t n → ∃ m, wkF n l = some m ∧ hasP t m := by
  induction w with
  | stop h => exact fun V => ⟨_, rfl, tow_zero h⟩
  | step h r ih =>
    intro V
    obtain ⟨V', _, hn⟩ := PV_step ht hs V h
    obtain ⟨m, h1, h2⟩ := ih V'
    obtain ⟨_, h3, _⟩ := tow_beh ht V.g h
    refine ⟨m, ?_, h2⟩
    rw [wkF, if_pos ?_]
    · exact h1
    · simp only [snG, Bool.and_eq_true, decide_eq_true_eq]
      exact ⟨⟨ndG_iff.2 V.g, by omega, by omega⟩, num2_iff.2 hn⟩
theorem rt_root : rt6 = root6 := rfl
theorem ptL_way {t : P2} (ht : Rg t) (hs : Sm t) : Way t rt6 (ptL t) := by
  obtain ⟨l, h, _⟩ := Way.ex ht hs _ rt6 (Nat.le_refl _) (rt6_PV t)
  exact Classical.epsilon_spec ⟨l, h⟩
/-- The path leads to a node with the region. -/
theorem path_ok {a b : Int} (hG : ptG a b = true) : (wkR (ptR a b)).isSome = decide ((ptR a b).length ≤ 200) ∧ ((ptR a b).length ≤ 200 → hasP (rgN a b) (wkV (ptR a b))) := by
  obtain ⟨ht, hs, _⟩ := rg_of hG
  obtain ⟨m, h1, h2⟩ := way_walk ht hs (ptL_way ht hs) (rt6_PV _)
  have e : ptR a b = ptL (rgN a b) := by rw [ptR, if_pos hG]
  rw [e]
  rw [rt_root] at h1
  by_cases hl : (ptL (rgN a b)).length ≤ 200
  · refine ⟨by rw [wkR, if_pos hl, h1]; simp [hl], fun _ => ?_⟩
    rw [wkV, wkR, if_pos hl, h1]
    exact h2
  · exact ⟨by rw [wkR, if_neg hl]; simp [hl], fun h => absurd h hl⟩

end Go.Proofs.Ytemlkfcbcphenaa
