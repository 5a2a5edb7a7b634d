/- IsNormalTriple, LegendreRoots. -/
import Derived.Test.YtnpmkomnafdgnaaF15
namespace Go.Proofs.Ytnpmkomnafdgnaa
set_option linter.unusedSimpArgs false
set_option linter.unusedVariables false
open Go.RowKit
set_option maxRecDepth 100000

/-! square divisors taken out -/
def fI : Nat → Int → Int → Int → Int × Int
  | 0, n, k, _ => (n, k)
  | f + 1, n, k, d => if n.tmod (d * d) = 0 then fI f (n.tdiv (d * d)) (k * d) d else (n, k)
def fO : Nat → Int → Int → Int → Int × Int
  | 0, n, k, _ => (n, k)
  | f + 1, n, k, d => if d * d ≤ n.natAbs then fO f (fI 500 n k d).1 (fI 500 n k d).2 (d + 1) else (n, k)
theorem sq_ge {d : Int} (h : 2 ≤ d) : 4 ≤ d * d := by have := Int.mul_le_mul h h (by omega) (by omega); omega
theorem fdown {n d : Int} (hn : n ≠ 0) (hd : 2 ≤ d) (h : n.tmod (d * d) = 0) : n = d * d * n.tdiv (d * d) ∧ n.tdiv (d * d) ≠ 0 ∧ (n.tdiv (d * d)).natAbs < n.natAbs := by
  have h4 := sq_ge hd
  have e := Int.tmod_def n (d * d)
  have e1 : n = d * d * n.tdiv (d * d) := by omega
  have e2 : n.tdiv (d * d) ≠ 0 := fun h0 => by rw [h0] at e1; omega
  refine ⟨e1, e2, ?_⟩
  have e3 := congrArg Int.natAbs e1
  rw [Int.natAbs_mul] at e3
  have e4 : 4 * (n.tdiv (d * d)).natAbs ≤ (d * d).natAbs * (n.tdiv (d * d)).natAbs := Nat.mul_le_mul_right _ (by omega)
  omega
theorem fI_fuel {d : Int} (hd : 2 ≤ d) : ∀ (f g : Nat) (n k : Int), n ≠ 0 → n.natAbs ≤ f → n.natAbs ≤ g → fI f n k d = fI g n k d
  | 0, g, n, k, hn, h1, h2 => by omega
  | f + 1, 0, n, k, hn, h1, h2 => by omega
  | f + 1, g + 1, n, k, hn, h1, h2 => by
    simp only [fI]
    split
    · rename_i h
      obtain ⟨_, e2, e3⟩ := fdown hn hd h
      exact fI_fuel hd f g _ _ e2 (by omega) (by omega)
    · rfl
theorem kbd {n k n0 : Int} (hn : n ≠ 0) (h : n * (k * k) = n0) (h0 : n0.natAbs ≤ 400) (hk : 1 ≤ k) : k ≤ 20 ∧ n.natAbs ≤ 400 := by
  have e := congrArg Int.natAbs h
  rw [Int.natAbs_mul] at e
  have hkk : 1 ≤ k * k := by have := Int.mul_le_mul hk hk (by omega) (by omega); omega
  have e1 : 1 * (k * k).natAbs ≤ n.natAbs * (k * k).natAbs := Nat.mul_le_mul_right _ (by omega)
  have e2 : n.natAbs * 1 ≤ n.natAbs * (k * k).natAbs := Nat.mul_le_mul_left _ (by omega)
  refine ⟨?_, by omega⟩
  rcases Int.lt_or_le 20 k with h' | h'
  · have := Int.mul_le_mul (show 21 ≤ k by omega) (show 21 ≤ k by omega) (by omega) (by omega); omega
  · exact h'
def sqf (n : Int) : Int × Int := fO 30 n 1 2
abbrev PII (a b : Int) : V := .tup [(false, [cI a]), (false, [cI b])]

theorem spec_nuFree (n0 : Int) (h0 : n0.natAbs ≤ 400) (h1 : n0 ≠ 0) : AFun Try.prog 120 [] [I n0] (PII (sqf n0).1 (sqf n0).2) [] [] := by
  refine afun_intro fn120 (by simp) rfl (by repeat' (first | exact trivial | (simp; done) | refine ⟨?_, ?_⟩)) ?_
  unfold ac120
  refine loop_rule (σ := Int × Int × Int) (fun s => [(0, I s.1), (4, I s.2.1), (5, I s.2.2)]) (fun _ => []) (fun s => 2 ≤ s.2.2 ∧ s.2.2 ≤ 21 ∧ s.1 ≠ 0 ∧ 1 ≤ s.2.1 ∧ s.1 * (s.2.1 * s.2.1) = n0 ∧ fO (32 - s.2.2).toNat s.1 s.2.1 s.2.2 = sqf n0) (fun s => (40 - s.2.2).toNat) ((n0, 1, 2)) ?_ (by repeat' (first | exact trivial | exact rfl | (refine And.intro ?_ ?_))) trivial (fun s => ⟨rfl, rfl⟩) (fun s i h => by first | exact absurd h (Nat.not_lt_zero i) | (cases i with | zero => rfl | succ i => exact absurd (Nat.lt_of_succ_lt_succ h) (Nat.not_lt_zero i))) ?_
  · exact ⟨by dsimp only; omega, by dsimp only; omega, h1, by dsimp only; omega, by dsimp only; omega, rfl⟩
  · rintro ⟨n, k, d⟩ ⟨g1, g2, g3, g4, g5, g6⟩
    dsimp only at g1 g2 g3 g4 g5 g6 ⊢
    have kb := kbd g3 g5 h0 g4
    have d4 := sq_ge g1
    have d5 := mul_bd (a := d) (b := d) (A := 21) (B := 21) (by omega) (by omega) (by omega) (by omega)
    have wd : wrap64 (d * d) = d * d := wrap_small (by omega) (by omega)
    have wd1 : wrap64 (d + 1) = d + 1 := wrap_small (by omega) (by omega)
    have stepO : d * d ≤ n.natAbs → fO (32 - (d + 1)).toNat (fI 500 n k d).1 (fI 500 n k d).2 (d + 1) = sqf n0 := fun h => by
      rw [← g6, show (32 - d).toNat = (32 - (d + 1)).toNat + 1 by omega, fO, if_pos h]
    have stopO : ¬ d * d ≤ n.natAbs → sqf n0 = (n, k) := fun h => by
      rw [← g6, show (32 - d).toNat = (32 - (d + 1)).toNat + 1 by omega, fO, if_neg h]
    repeat' (first | ((with_reducible refine (?_ : (_ : Bool) = _)); (with_reducible rfl)) | ((with_reducible refine (?_ : (_ : Nat × Nat) = _)); (with_reducible rfl)) | (with_reducible refine leafRI ?_) | (with_reducible refine leafRB ?_) | (with_reducible refine leafI ?_) | (with_reducible refine leafB ?_) | ((with_reducible refine (?_ : (_ : Int) = _)); (with_reducible rfl)) | ((with_reducible refine (?_ : (_ : List (List Value)) = _)); (with_reducible rfl)) | ((with_reducible refine (?_ : (_ : Int) ≠ 0)); (first | assumption | omega | (simp only [ints_len] at *; omega) | (simp; omega))) | ((with_reducible refine (?_ : (_ : Int) ≤ _)); (first | assumption | omega | (simp only [ints_len] at *; omega) | (simp; omega))) | ((with_reducible refine (?_ : (_ : Int) < _)); (first | assumption | omega | (simp only [ints_len] at *; omega) | (simp; omega))) | ((with_reducible refine (?_ : (_ : Nat) ≤ _)); (first | omega | (simp only [List.length_cons, List.length_nil]; omega) | (simp; omega))) | ((with_reducible refine (?_ : (_ : Nat) = _)); (first | (with_reducible rfl) | (simp; done) | (simp only [fr_len]) | (simp only [ints_len]) | omega | (simp [*]; done))) | (refine And.intro ?_ ?_) | (intro h; first | (exact Bool.noConfusion h) | ((simp only [decide_eq_true_eq, decide_eq_false_iff_not, beq_iff_eq, bne_iff_ne, ne_eq, beq_eq_false_iff_ne, bne_eq_false_iff_eq, Bool.not_eq_true', Bool.not_eq_false', Bool.not_eq_true, Bool.not_eq_false, Int.not_le, Int.not_lt, Bool.and_eq_true, Bool.or_eq_true, Bool.or_eq_false_iff, Bool.and_eq_false_iff] at h); (try (first | (exact Bool.noConfusion h) | (exact (h trivial).elim)))) | skip) | ((refine (?_ : ACall _ _ _ _ _ _ _)); first | ((apply acall (spec_l1Abs _ ?_ ?_)); (focus (repeat' (first | exact rfl | (refine And.intro ?_ ?_) | (simp only [ints_len]; done) | (simp; done) | omega))))) | ((with_reducible refine (?_ : chk _ _ = true)); kernel_rfl) | exact trivial)
    · rw [wd] at h
      refine loop_rule (σ := Int × Int) (fun s => [(0, I s.1), (4, I s.2)]) (fun _ => []) (fun s => s.1 ≠ 0 ∧ 1 ≤ s.2 ∧ s.1 * (s.2 * s.2) = n0 ∧ fI s.1.natAbs s.1 s.2 d = fI 500 n k d) (fun s => s.1.natAbs) ((n, k)) ?_ (by repeat' (first | exact trivial | exact rfl | (refine And.intro ?_ ?_))) trivial (fun s => ⟨rfl, rfl⟩) (fun s i h => by first | exact absurd h (Nat.not_lt_zero i) | (cases i with | zero => rfl | succ i => exact absurd (Nat.lt_of_succ_lt_succ h) (Nat.not_lt_zero i))) ?_
      · exact ⟨g3, g4, g5, fI_fuel g1 _ _ _ _ g3 (Nat.le_refl _) (by omega)⟩
      · rintro ⟨a, b⟩ ⟨e1, e2, e3, e4⟩
        dsimp only at e1 e2 e3 e4 ⊢
        have ab := kbd e1 e3 h0 e2
        have b1 := mul_bd (a := b) (b := d) (A := 20) (B := 21) (by omega) (by omega) (by omega) (by omega)
        have b2 : 1 ≤ b * d := by have := Int.mul_le_mul e2 (show 1 ≤ d by omega) (by omega) (by omega); omega
        have wb : wrap64 (b * d) = b * d := wrap_small (by omega) (by omega)
        have hf : fI a.natAbs a b d = if a.tmod (d * d) = 0 then fI (a.natAbs - 1) (a.tdiv (d * d)) (b * d) d else (a, b) := by
          rw [show a.natAbs = (a.natAbs - 1) + 1 by omega, fI]; rfl
        repeat' (first | ((with_reducible refine (?_ : (_ : Bool) = _)); (with_reducible rfl)) | ((with_reducible refine (?_ : (_ : Nat × Nat) = _)); (with_reducible rfl)) | (with_reducible refine leafRI ?_) | (with_reducible refine leafRB ?_) | (with_reducible refine leafI ?_) | (with_reducible refine leafB ?_) | ((with_reducible refine (?_ : (_ : Int) = _)); (with_reducible rfl)) | ((with_reducible refine (?_ : (_ : List (List Value)) = _)); (with_reducible rfl)) | ((with_reducible refine (?_ : (_ : Int) ≠ 0)); (first | assumption | omega | (simp only [ints_len] at *; omega) | (simp; omega))) | ((with_reducible refine (?_ : (_ : Int) ≤ _)); (first | assumption | omega | (simp only [ints_len] at *; omega) | (simp; omega))) | ((with_reducible refine (?_ : (_ : Int) < _)); (first | assumption | omega | (simp only [ints_len] at *; omega) | (simp; omega))) | ((with_reducible refine (?_ : (_ : Nat) ≤ _)); (first | omega | (simp only [List.length_cons, List.length_nil]; omega) | (simp; omega))) | ((with_reducible refine (?_ : (_ : Nat) = _)); (first | (with_reducible rfl) | (simp; done) | (simp only [fr_len]) | (simp only [ints_len]) | omega | (simp [*]; done))) | (refine And.intro ?_ ?_) | (intro h; first | (exact Bool.noConfusion h) | ((simp only [decide_eq_true_eq, decide_eq_false_iff_not, beq_iff_eq, bne_iff_ne, ne_eq, beq_eq_false_iff_ne, bne_eq_false_iff_eq, Bool.not_eq_true', Bool.not_eq_false', Bool.not_eq_true, Bool.not_eq_false, Int.not_le, Int.not_lt, Bool.and_eq_true, Bool.or_eq_true, Bool.or_eq_false_iff, Bool.and_eq_false_iff] at h); (try (first | (exact Bool.noConfusion h) | (exact (h trivial).elim)))) | skip) | ((with_reducible refine (?_ : chk _ _ = true)); kernel_rfl) | exact trivial)
        · rw [wd] at h
          obtain ⟨f1, f2, f3⟩ := fdown e1 g1 h
          have wq : wrap64 (a.tdiv (d * d)) = a.tdiv (d * d) := wrap_small (by omega) (by omega)
          refine ⟨(wrap64 (a.tdiv (wrap64 (d * d))), wrap64 (b * d)), ?_, ?_, none, And.intro rfl (And.intro (by repeat' (first | exact trivial | exact rfl | (refine And.intro ?_ ?_))) (by repeat' (first | exact trivial | exact rfl | (refine And.intro ?_ ?_))))⟩
          · dsimp only
            rw [wd, wq, wb]
            refine ⟨f2, b2, ?_, ?_⟩
            · rw [← e3]; conv => rhs; rw [f1]
              grind
            · rw [← e4, hf, if_pos h]
              exact fI_fuel g1 _ _ _ _ f2 (Nat.le_refl _) (by omega)
          · dsimp only; rw [wd, wq]; exact f3
        · rw [wd] at h
          have he : fI 500 n k d = (a, b) := by rw [← e4, hf, if_neg h]
          rename_i h0
          have hs := stepO h0
          rw [he] at hs
          refine ⟨(a, b, wrap64 (d + 1)), ?_, ?_, none, And.intro rfl (And.intro (by repeat' (first | exact trivial | exact rfl | (refine And.intro ?_ ?_))) (by repeat' (first | exact trivial | exact rfl | (refine And.intro ?_ ?_))))⟩
          · dsimp only
            rw [wd1]
            refine ⟨by omega, ?_, e1, e2, e3, hs⟩
            rcases Int.lt_or_le d 21 with h' | h'
            · omega
            · have := Int.mul_le_mul h' h' (by omega) (by omega); omega
          · dsimp only; rw [wd1]; omega
    · rw [wd] at h; rw [stopO (by omega)]
    · rw [wd] at h; rw [stopO (by omega)]

theorem impl_squareFree (n0 : Int) (h0 : n0.natAbs ≤ 400) (h1 : n0 ≠ 0) : AFun Try.prog 94 [] [I n0] (PII (sqf n0).1 (sqf n0).2) [] [] := by
  refine afun_intro fn94 (by simp) rfl (by repeat' (first | exact trivial | (simp; done) | refine ⟨?_, ?_⟩)) ?_
  unfold ac94
  refine loop_rule (σ := Int × Int × Int) (fun s => [(0, I s.1), (4, I s.2.1), (5, I s.2.2)]) (fun _ => []) (fun s => 2 ≤ s.2.2 ∧ s.2.2 ≤ 21 ∧ s.1 ≠ 0 ∧ 1 ≤ s.2.1 ∧ s.1 * (s.2.1 * s.2.1) = n0 ∧ fO (32 - s.2.2).toNat s.1 s.2.1 s.2.2 = sqf n0) (fun s => (40 - s.2.2).toNat) ((n0, 1, 2)) ?_ (by repeat' (first | exact trivial | exact rfl | (refine And.intro ?_ ?_))) trivial (fun s => ⟨rfl, rfl⟩) (fun s i h => by first | exact absurd h (Nat.not_lt_zero i) | (cases i with | zero => rfl | succ i => exact absurd (Nat.lt_of_succ_lt_succ h) (Nat.not_lt_zero i))) ?_
  · exact ⟨by dsimp only; omega, by dsimp only; omega, h1, by dsimp only; omega, by dsimp only; omega, rfl⟩
  · rintro ⟨n, k, d⟩ ⟨g1, g2, g3, g4, g5, g6⟩
    dsimp only at g1 g2 g3 g4 g5 g6 ⊢
    have kb := kbd g3 g5 h0 g4
    have d4 := sq_ge g1
    have d5 := mul_bd (a := d) (b := d) (A := 21) (B := 21) (by omega) (by omega) (by omega) (by omega)
    have wd : wrap64 (d * d) = d * d := wrap_small (by omega) (by omega)
    have wd1 : wrap64 (d + 1) = d + 1 := wrap_small (by omega) (by omega)
    have stepO : d * d ≤ n.natAbs → fO (32 - (d + 1)).toNat (fI 500 n k d).1 (fI 500 n k d).2 (d + 1) = sqf n0 := fun h => by
      rw [← g6, show (32 - d).toNat = (32 - (d + 1)).toNat + 1 by omega, fO, if_pos h]
    have stopO : ¬ d * d ≤ n.natAbs → sqf n0 = (n, k) := fun h => by
      rw [← g6, show (32 - d).toNat = (32 - (d + 1)).toNat + 1 by omega, fO, if_neg h]
    repeat' (first | ((with_reducible refine (?_ : (_ : Bool) = _)); (with_reducible rfl)) | ((with_reducible refine (?_ : (_ : Nat × Nat) = _)); (with_reducible rfl)) | (with_reducible refine leafRI ?_) | (with_reducible refine leafRB ?_) | (with_reducible refine leafI ?_) | (with_reducible refine leafB ?_) | ((with_reducible refine (?_ : (_ : Int) = _)); (with_reducible rfl)) | ((with_reducible refine (?_ : (_ : List (List Value)) = _)); (with_reducible rfl)) | ((with_reducible refine (?_ : (_ : Int) ≠ 0)); (first | assumption | omega | (simp only [ints_len] at *; omega) | (simp; omega))) | ((with_reducible refine (?_ : (_ : Int) ≤ _)); (first | assumption | omega | (simp only [ints_len] at *; omega) | (simp; omega))) | ((with_reducible refine (?_ : (_ : Int) < _)); (first | assumption | omega | (simp only [ints_len] at *; omega) | (simp; omega))) | ((with_reducible refine (?_ : (_ : Nat) ≤ _)); (first | omega | (simp only [List.length_cons, List.length_nil]; omega) | (simp; omega))) | ((with_reducible refine (?_ : (_ : Nat) = _)); (first | (with_reducible rfl) | (simp; done) | (simp only [fr_len]) | (simp only [ints_len]) | omega | (simp [*]; done))) | (refine And.intro ?_ ?_) | (intro h; first | (exact Bool.noConfusion h) | ((simp only [decide_eq_true_eq, decide_eq_false_iff_not, beq_iff_eq, bne_iff_ne, ne_eq, beq_eq_false_iff_ne, bne_eq_false_iff_eq, Bool.not_eq_true', Bool.not_eq_false', Bool.not_eq_true, Bool.not_eq_false, Int.not_le, Int.not_lt, Bool.and_eq_true, Bool.or_eq_true, Bool.or_eq_false_iff, Bool.and_eq_false_iff] at h); (try (first | (exact Bool.noConfusion h) | (exact (h trivial).elim)))) | skip) | ((refine (?_ : ACall _ _ _ _ _ _ _)); first | ((apply acall (impl_abs _ ?_ ?_)); (focus (repeat' (first | exact rfl | (refine And.intro ?_ ?_) | (simp only [ints_len]; done) | (simp; done) | omega))))) | ((with_reducible refine (?_ : chk _ _ = true)); kernel_rfl) | exact trivial)
    · rw [wd] at h
      refine loop_rule (σ := Int × Int) (fun s => [(0, I s.1), (4, I s.2)]) (fun _ => []) (fun s => s.1 ≠ 0 ∧ 1 ≤ s.2 ∧ s.1 * (s.2 * s.2) = n0 ∧ fI s.1.natAbs s.1 s.2 d = fI 500 n k d) (fun s => s.1.natAbs) ((n, k)) ?_ (by repeat' (first | exact trivial | exact rfl | (refine And.intro ?_ ?_))) trivial (fun s => ⟨rfl, rfl⟩) (fun s i h => by first | exact absurd h (Nat.not_lt_zero i) | (cases i with | zero => rfl | succ i => exact absurd (Nat.lt_of_succ_lt_succ h) (Nat.not_lt_zero i))) ?_
      · exact ⟨g3, g4, g5, fI_fuel g1 _ _ _ _ g3 (Nat.le_refl _) (by omega)⟩
      · rintro ⟨a, b⟩ ⟨e1, e2, e3, e4⟩
        dsimp only at e1 e2 e3 e4 ⊢
        have ab := kbd e1 e3 h0 e2
        have b1 := mul_bd (a := b) (b := d) (A := 20) (B := 21) (by omega) (by omega) (by omega) (by omega)
        have b2 : 1 ≤ b * d := by have := Int.mul_le_mul e2 (show 1 ≤ d by omega) (by omega) (by omega); omega
        have wb : wrap64 (b * d) = b * d := wrap_small (by omega) (by omega)
        have hf : fI a.natAbs a b d = if a.tmod (d * d) = 0 then fI (a.natAbs - 1) (a.tdiv (d * d)) (b * d) d else (a, b) := by
          rw [show a.natAbs = (a.natAbs - 1) + 1 by omega, fI]; rfl
        repeat' (first | ((with_reducible refine (?_ : (_ : Bool) = _)); (with_reducible rfl)) | ((with_reducible refine (?_ : (_ : Nat × Nat) = _)); (with_reducible rfl)) | (with_reducible refine leafRI ?_) | (with_reducible refine leafRB ?_) | (with_reducible refine leafI ?_) | (with_reducible refine leafB ?_) | ((with_reducible refine (?_ : (_ : Int) = _)); (with_reducible rfl)) | ((with_reducible refine (?_ : (_ : List (List Value)) = _)); (with_reducible rfl)) | ((with_reducible refine (?_ : (_ : Int) ≠ 0)); (first | assumption | omega | (simp only [ints_len] at *; omega) | (simp; omega))) | ((with_reducible refine (?_ : (_ : Int) ≤ _)); (first | assumption | omega | (simp only [ints_len] at *; omega) | (simp; omega))) | ((with_reducible refine (?_ : (_ : Int) < _)); (first | assumption | omega | (simp only [ints_len] at *; omega) | (simp; omega))) | ((with_reducible refine (?_ : (_ : Nat) ≤ _)); (first | omega | (simp only [List.length_cons, List.length_nil]; omega) | (simp; omega))) | ((with_reducible refine (?_ : (_ : Nat) = _)); (first | (with_reducible rfl) | (simp; done) | (simp only [fr_len]) | (simp only [ints_len]) | omega | (simp [*]; done))) | (refine And.intro ?_ ?_) | (intro h; first | (exact Bool.noConfusion h) | ((simp only [decide_eq_true_eq, decide_eq_false_iff_not, beq_iff_eq, bne_iff_ne, ne_eq, beq_eq_false_iff_ne, bne_eq_false_iff_eq, Bool.not_eq_true', Bool.not_eq_false', Bool.not_eq_true, Bool.not_eq_false, Int.not_le, Int.not_lt, Bool.and_eq_true, Bool.or_eq_true, Bool.or_eq_false_iff, Bool.and_eq_false_iff] at h); (try (first | (exact Bool.noConfusion h) | (exact (h trivial).elim)))) | skip) | ((with_reducible refine (?_ : chk _ _ = true)); kernel_rfl) | exact trivial)
        · rw [wd] at h
          obtain ⟨f1, f2, f3⟩ := fdown e1 g1 h
          have wq : wrap64 (a.tdiv (d * d)) = a.tdiv (d * d) := wrap_small (by omega) (by omega)
          refine ⟨(wrap64 (a.tdiv (wrap64 (d * d))), wrap64 (b * d)), ?_, ?_, none, And.intro rfl (And.intro (by repeat' (first | exact trivial | exact rfl | (refine And.intro ?_ ?_))) (by repeat' (first | exact trivial | exact rfl | (refine And.intro ?_ ?_))))⟩
          · dsimp only
            rw [wd, wq, wb]
            refine ⟨f2, b2, ?_, ?_⟩
            · rw [← e3]; conv => rhs; rw [f1]
              grind
            · rw [← e4, hf, if_pos h]
              exact fI_fuel g1 _ _ _ _ f2 (Nat.le_refl _) (by omega)
          · dsimp only; rw [wd, wq]; exact f3
        · rw [wd] at h
          have he : fI 500 n k d = (a, b) := by rw [← e4, hf, if_neg h]
          rename_i h0
          have hs := stepO h0
          rw [he] at hs
          refine ⟨(a, b, wrap64 (d + 1)), ?_, ?_, none, And.intro rfl (And.intro (by repeat' (first | exact trivial | exact rfl | (refine And.intro ?_ ?_))) (by repeat' (first | exact trivial | exact rfl | (refine And.intro ?_ ?_))))⟩
          · dsimp only
            rw [wd1]
            refine ⟨by omega, ?_, e1, e2, e3, hs⟩
            rcases Int.lt_or_le d 21 with h' | h'
            · omega
            · have := Int.mul_le_mul h' h' (by omega) (by omega); omega
          · dsimp only; rw [wd1]; omega
    · rw [wd] at h; rw [stopO (by omega)]
    · rw [wd] at h; rw [stopO (by omega)]


/-! IsNormalTriple -/
theorem fI_pos {d : Int} (hd : 2 ≤ d) : ∀ (f : Nat) (n k : Int), 1 ≤ k → 1 ≤ (fI f n k d).2
  | 0, n, k, h => h
  | f + 1, n, k, h => by
    simp only [fI]
    split
    · have := Int.mul_le_mul h (show 1 ≤ d by omega) (by omega) (by omega)
      exact fI_pos hd f _ _ (by omega)
    · exact h
theorem fO_pos : ∀ (f : Nat) (n k d : Int), 2 ≤ d → 1 ≤ k → 1 ≤ (fO f n k d).2
  | 0, n, k, d, _, h => h
  | f + 1, n, k, d, hd, h => by
    simp only [fO]
    split
    · exact fO_pos f _ _ _ (by omega) (fI_pos hd _ _ _ h)
    · exact h
theorem sqf_pos (n : Int) : 1 ≤ (sqf n).2 := fO_pos 30 n 1 2 (by omega) (by omega)
def fre (n : Int) : Bool := decide ((sqf n).2 = 1)
theorem coef_bd {n : Int} (h : coef n = true) : n.natAbs ≤ 400 ∧ n ≠ 0 := by simp [coef] at h; omega
def nrm (a b c : Int) : Bool := fre a && fre b && fre c && decide (Int.gcd a b = 1) && decide (Int.gcd a c = 1) && decide (Int.gcd b c = 1)

theorem spec_cnFree (n : Int) (h0 : n.natAbs ≤ 400) (h1 : n ≠ 0) : AFun Try.prog 92 [] [I n] (Bo (fre n)) [] [] := by
  refine afun_intro fn92 (by simp) rfl (by repeat' (first | exact trivial | (simp; done) | refine ⟨?_, ?_⟩)) ?_
  unfold ac92
  repeat' (first | ((with_reducible refine (?_ : (_ : Bool) = _)); (with_reducible rfl)) | ((with_reducible refine (?_ : (_ : Nat × Nat) = _)); (with_reducible rfl)) | (with_reducible refine leafRI ?_) | (with_reducible refine leafRB ?_) | (with_reducible refine leafI ?_) | (with_reducible refine leafB ?_) | ((with_reducible refine (?_ : (_ : Int) = _)); (with_reducible rfl)) | ((with_reducible refine (?_ : (_ : List (List Value)) = _)); (with_reducible rfl)) | ((with_reducible refine (?_ : (_ : Int) ≠ 0)); (first | assumption | omega | (simp only [ints_len] at *; omega) | (simp; omega))) | ((with_reducible refine (?_ : (_ : Int) ≤ _)); (first | assumption | omega | (simp only [ints_len] at *; omega) | (simp; omega))) | ((with_reducible refine (?_ : (_ : Int) < _)); (first | assumption | omega | (simp only [ints_len] at *; omega) | (simp; omega))) | ((with_reducible refine (?_ : (_ : Nat) ≤ _)); (first | omega | (simp only [List.length_cons, List.length_nil]; omega) | (simp; omega))) | ((with_reducible refine (?_ : (_ : Nat) = _)); (first | (with_reducible rfl) | (simp; done) | (simp only [fr_len]) | (simp only [ints_len]) | omega | (simp [*]; done))) | (refine And.intro ?_ ?_) | (intro h; first | (exact Bool.noConfusion h) | ((simp only [decide_eq_true_eq, decide_eq_false_iff_not, beq_iff_eq, bne_iff_ne, ne_eq, beq_eq_false_iff_ne, bne_eq_false_iff_eq, Bool.not_eq_true', Bool.not_eq_false', Bool.not_eq_true, Bool.not_eq_false, Int.not_le, Int.not_lt, Bool.and_eq_true, Bool.or_eq_true, Bool.or_eq_false_iff, Bool.and_eq_false_iff] at h); (try (first | (exact Bool.noConfusion h) | (exact (h trivial).elim)))) | skip) | ((refine (?_ : ACall _ _ _ _ _ _ _)); first | ((apply acall (spec_nuFree _ ?_ ?_)); (focus (repeat' (first | exact rfl | (refine And.intro ?_ ?_) | (simp only [ints_len]; done) | (simp; done) | omega))))) | ((with_reducible refine (?_ : chk _ _ = true)); kernel_rfl) | exact trivial)
  all_goals (first | assumption | (unfold fre; grind))

theorem spec_cnNormal (a b c : Int) (ha : a.natAbs ≤ 400) (ha0 : a ≠ 0) (hb : b.natAbs ≤ 400) (hb0 : b ≠ 0) (hc : c.natAbs ≤ 400) (hc0 : c ≠ 0) : AFun Try.prog 57 [] [Tri a b c] (Bo (nrm a b c)) [] [] := by
  refine afun_intro fn57 (by simp) rfl (by repeat' (first | exact trivial | (simp; done) | refine ⟨?_, ?_⟩)) ?_
  unfold ac57
  repeat' (first | ((with_reducible refine (?_ : (_ : Bool) = _)); (with_reducible rfl)) | ((with_reducible refine (?_ : (_ : Nat × Nat) = _)); (with_reducible rfl)) | (with_reducible refine leafRI ?_) | (with_reducible refine leafRB ?_) | (with_reducible refine leafI ?_) | (with_reducible refine leafB ?_) | ((with_reducible refine (?_ : (_ : Int) = _)); (with_reducible rfl)) | ((with_reducible refine (?_ : (_ : List (List Value)) = _)); (with_reducible rfl)) | ((with_reducible refine (?_ : (_ : Int) ≠ 0)); (first | assumption | omega | (simp only [ints_len] at *; omega) | (simp; omega))) | ((with_reducible refine (?_ : (_ : Int) ≤ _)); (first | assumption | omega | (simp only [ints_len] at *; omega) | (simp; omega))) | ((with_reducible refine (?_ : (_ : Int) < _)); (first | assumption | omega | (simp only [ints_len] at *; omega) | (simp; omega))) | ((with_reducible refine (?_ : (_ : Nat) ≤ _)); (first | omega | (simp only [List.length_cons, List.length_nil]; omega) | (simp; omega))) | ((with_reducible refine (?_ : (_ : Nat) = _)); (first | (with_reducible rfl) | (simp; done) | (simp only [fr_len]) | (simp only [ints_len]) | omega | (simp [*]; done))) | (refine And.intro ?_ ?_) | (intro h; first | (exact Bool.noConfusion h) | ((simp only [decide_eq_true_eq, decide_eq_false_iff_not, beq_iff_eq, bne_iff_ne, ne_eq, beq_eq_false_iff_ne, bne_eq_false_iff_eq, Bool.not_eq_true', Bool.not_eq_false', Bool.not_eq_true, Bool.not_eq_false, Int.not_le, Int.not_lt, Bool.and_eq_true, Bool.or_eq_true, Bool.or_eq_false_iff, Bool.and_eq_false_iff] at h); (try (first | (exact Bool.noConfusion h) | (exact (h trivial).elim)))) | skip) | ((refine (?_ : ACall _ _ _ _ _ _ _)); first | ((apply acall (spec_cnFree _ ?_ ?_)); (focus (repeat' (first | exact rfl | (refine And.intro ?_ ?_) | (simp only [ints_len]; done) | (simp; done) | omega)))) | ((apply acall (spec_nuGcd _ _ ?_ ?_ ?_ ?_)); (focus (repeat' (first | exact rfl | (refine And.intro ?_ ?_) | (simp only [ints_len]; done) | (simp; done) | omega))))) | ((with_reducible refine (?_ : chk _ _ = true)); kernel_rfl) | exact trivial)
  all_goals (first | assumption | omega | (unfold nrm; grind))

theorem impl_list (a b c : Int) : AFun Try.prog 93 [] [Tri a b c] (.agg [cI a, cI b, cI c]) [] [] := by
  refine afun_intro fn93 (by simp) rfl (by repeat' (first | exact trivial | (simp; done) | refine ⟨?_, ?_⟩)) ?_
  unfold ac93
  repeat' (first | ((with_reducible refine (?_ : (_ : Bool) = _)); (with_reducible rfl)) | ((with_reducible refine (?_ : (_ : Nat × Nat) = _)); (with_reducible rfl)) | (with_reducible refine leafRI ?_) | (with_reducible refine leafRB ?_) | (with_reducible refine leafI ?_) | (with_reducible refine leafB ?_) | ((with_reducible refine (?_ : (_ : Int) = _)); (with_reducible rfl)) | ((with_reducible refine (?_ : (_ : List (List Value)) = _)); (with_reducible rfl)) | ((with_reducible refine (?_ : (_ : Int) ≠ 0)); (first | assumption | omega | (simp only [ints_len] at *; omega) | (simp; omega))) | ((with_reducible refine (?_ : (_ : Int) ≤ _)); (first | assumption | omega | (simp only [ints_len] at *; omega) | (simp; omega))) | ((with_reducible refine (?_ : (_ : Int) < _)); (first | assumption | omega | (simp only [ints_len] at *; omega) | (simp; omega))) | ((with_reducible refine (?_ : (_ : Nat) ≤ _)); (first | omega | (simp only [List.length_cons, List.length_nil]; omega) | (simp; omega))) | ((with_reducible refine (?_ : (_ : Nat) = _)); (first | (with_reducible rfl) | (simp; done) | (simp only [fr_len]) | (simp only [ints_len]) | omega | (simp [*]; done))) | (refine And.intro ?_ ?_) | (intro h; first | (exact Bool.noConfusion h) | ((simp only [decide_eq_true_eq, decide_eq_false_iff_not, beq_iff_eq, bne_iff_ne, ne_eq, beq_eq_false_iff_ne, bne_eq_false_iff_eq, Bool.not_eq_true', Bool.not_eq_false', Bool.not_eq_true, Bool.not_eq_false, Int.not_le, Int.not_lt, Bool.and_eq_true, Bool.or_eq_true, Bool.or_eq_false_iff, Bool.and_eq_false_iff] at h); (try (first | (exact Bool.noConfusion h) | (exact (h trivial).elim)))) | skip) | ((with_reducible refine (?_ : chk _ _ = true)); kernel_rfl) | exact trivial)

theorem impl_TisNormal (a b c : Int) (ha : a.natAbs ≤ 400) (ha0 : a ≠ 0) (hb : b.natAbs ≤ 400) (hb0 : b ≠ 0) (hc : c.natAbs ≤ 400) (hc0 : c ≠ 0) : AFun Try.prog 58 [] [Tri a b c] (Bo (nrm a b c)) [] [] := by
  have pa := sqf_pos a
  have pb := sqf_pos b
  have pc := sqf_pos c
  refine afun_intro fn58 (by simp) rfl (by repeat' (first | exact trivial | (simp; done) | refine ⟨?_, ?_⟩)) ?_
  unfold ac58
  repeat' (first | ((with_reducible refine (?_ : (_ : Bool) = _)); (with_reducible rfl)) | ((with_reducible refine (?_ : (_ : Nat × Nat) = _)); (with_reducible rfl)) | (with_reducible refine leafRI ?_) | (with_reducible refine leafRB ?_) | (with_reducible refine leafI ?_) | (with_reducible refine leafB ?_) | ((with_reducible refine (?_ : (_ : Int) = _)); (with_reducible rfl)) | ((with_reducible refine (?_ : (_ : List (List Value)) = _)); (with_reducible rfl)) | ((with_reducible refine (?_ : (_ : Int) ≠ 0)); (first | assumption | omega | (simp only [ints_len] at *; omega) | (simp; omega))) | ((with_reducible refine (?_ : (_ : Int) ≤ _)); (first | assumption | omega | (simp only [ints_len] at *; omega) | (simp; omega))) | ((with_reducible refine (?_ : (_ : Int) < _)); (first | assumption | omega | (simp only [ints_len] at *; omega) | (simp; omega))) | ((with_reducible refine (?_ : (_ : Nat) ≤ _)); (first | omega | (simp only [List.length_cons, List.length_nil]; omega) | (simp; omega))) | ((with_reducible refine (?_ : (_ : Nat) = _)); (first | (with_reducible rfl) | (simp; done) | (simp only [fr_len]) | (simp only [ints_len]) | omega | (simp [*]; done))) | (refine And.intro ?_ ?_) | (intro h; first | (exact Bool.noConfusion h) | ((simp only [decide_eq_true_eq, decide_eq_false_iff_not, beq_iff_eq, bne_iff_ne, ne_eq, beq_eq_false_iff_ne, bne_eq_false_iff_eq, Bool.not_eq_true', Bool.not_eq_false', Bool.not_eq_true, Bool.not_eq_false, Int.not_le, Int.not_lt, Bool.and_eq_true, Bool.or_eq_true, Bool.or_eq_false_iff, Bool.and_eq_false_iff] at h); (try (first | (exact Bool.noConfusion h) | (exact (h trivial).elim)))) | skip) | ((refine (?_ : ACall _ _ _ _ _ _ _)); first | ((apply acall (impl_list _ _ _)); (focus (repeat' (first | exact rfl | (refine And.intro ?_ ?_) | (simp only [ints_len]; done) | (simp; done) | omega))))) | ((with_reducible refine (?_ : chk _ _ = true)); kernel_rfl) | exact trivial)
  refine loop_rule (σ := Int) (fun s => [(9, I s)]) (fun s => [((1, 0), .bx [cI a, cI b, cI c])]) (fun s => 0 ≤ s ∧ s ≤ 3 ∧ (1 ≤ s → fre a = true) ∧ (2 ≤ s → fre b = true) ∧ (3 ≤ s → fre c = true)) (fun s => (3 - s).toNat) (0) ?_ (by repeat' (first | exact trivial | exact rfl | (refine And.intro ?_ ?_))) (by repeat' (first | exact trivial | exact rfl | (refine And.intro ?_ ?_))) (fun s => ⟨rfl, rfl⟩) (fun s i h => by first | exact absurd h (Nat.not_lt_zero i) | (cases i with | zero => rfl | succ i => exact absurd (Nat.lt_of_succ_lt_succ h) (Nat.not_lt_zero i))) ?_
  · exact ⟨by omega, by omega, by omega, by omega, by omega⟩
  · rintro i ⟨g1, g2, g3, g4, g5⟩
    have w1 : wrap64 (i + 1) = i + 1 := wrap_small (by omega) (by omega)
    have no : fre a = false ∨ fre b = false ∨ fre c = false → nrm a b c = false := fun h => by unfold nrm; grind
    by_cases hi : i < 3
    · rcases (show i = 0 ∨ i = 1 ∨ i = 2 by omega) with rfl | rfl | rfl
      · repeat' (first | ((with_reducible refine (?_ : (_ : Bool) = _)); (with_reducible rfl)) | ((with_reducible refine (?_ : (_ : Nat × Nat) = _)); (with_reducible rfl)) | (with_reducible refine leafRI ?_) | (with_reducible refine leafRB ?_) | (with_reducible refine leafI ?_) | (with_reducible refine leafB ?_) | ((with_reducible refine (?_ : (_ : Int) = _)); (with_reducible rfl)) | ((with_reducible refine (?_ : (_ : List (List Value)) = _)); (with_reducible rfl)) | ((with_reducible refine (?_ : (_ : Int) ≠ 0)); (first | assumption | omega | (simp only [ints_len] at *; omega) | (simp; omega))) | ((with_reducible refine (?_ : (_ : Int) ≤ _)); (first | assumption | omega | (simp only [ints_len] at *; omega) | (simp; omega))) | ((with_reducible refine (?_ : (_ : Int) < _)); (first | assumption | omega | (simp only [ints_len] at *; omega) | (simp; omega))) | ((with_reducible refine (?_ : (_ : Nat) ≤ _)); (first | omega | (simp only [List.length_cons, List.length_nil]; omega) | (simp; omega))) | ((with_reducible refine (?_ : (_ : Nat) = _)); (first | (with_reducible rfl) | (simp; done) | (simp only [fr_len]) | (simp only [ints_len]) | omega | (simp [*]; done))) | (refine And.intro ?_ ?_) | (intro h; first | (exact Bool.noConfusion h) | ((simp only [decide_eq_true_eq, decide_eq_false_iff_not, beq_iff_eq, bne_iff_ne, ne_eq, beq_eq_false_iff_ne, bne_eq_false_iff_eq, Bool.not_eq_true', Bool.not_eq_false', Bool.not_eq_true, Bool.not_eq_false, Int.not_le, Int.not_lt, Bool.and_eq_true, Bool.or_eq_true, Bool.or_eq_false_iff, Bool.and_eq_false_iff] at h); (try (exfalso; omega))) | skip) | ((with_reducible refine (?_ : chk _ _ = true)); kernel_rfl) | exact trivial)
        refine ⟨0, rfl, by omega, ?_⟩
        repeat' (first | ((with_reducible refine (?_ : (_ : Bool) = _)); (with_reducible rfl)) | ((with_reducible refine (?_ : (_ : Nat × Nat) = _)); (with_reducible rfl)) | (with_reducible refine leafRI ?_) | (with_reducible refine leafRB ?_) | (with_reducible refine leafI ?_) | (with_reducible refine leafB ?_) | ((with_reducible refine (?_ : (_ : Int) = _)); (with_reducible rfl)) | ((with_reducible refine (?_ : (_ : List (List Value)) = _)); (with_reducible rfl)) | ((with_reducible refine (?_ : (_ : Int) ≠ 0)); (first | assumption | omega | (simp only [ints_len] at *; omega) | (simp; omega))) | ((with_reducible refine (?_ : (_ : Int) ≤ _)); (first | assumption | omega | (simp only [ints_len] at *; omega) | (simp; omega))) | ((with_reducible refine (?_ : (_ : Int) < _)); (first | assumption | omega | (simp only [ints_len] at *; omega) | (simp; omega))) | ((with_reducible refine (?_ : (_ : Nat) ≤ _)); (first | omega | (simp only [List.length_cons, List.length_nil]; omega) | (simp; omega))) | ((with_reducible refine (?_ : (_ : Nat) = _)); (first | (with_reducible rfl) | (simp; done) | (simp only [fr_len]) | (simp only [ints_len]) | omega | (simp [*]; done))) | (refine And.intro ?_ ?_) | (intro h; first | (exact Bool.noConfusion h) | ((simp only [decide_eq_true_eq, decide_eq_false_iff_not, beq_iff_eq, bne_iff_ne, ne_eq, beq_eq_false_iff_ne, bne_eq_false_iff_eq, Bool.not_eq_true', Bool.not_eq_false', Bool.not_eq_true, Bool.not_eq_false, Int.not_le, Int.not_lt, Bool.and_eq_true, Bool.or_eq_true, Bool.or_eq_false_iff, Bool.and_eq_false_iff] at h); (try (exfalso; omega))) | skip) | ((refine (?_ : ACall _ _ _ _ _ _ _)); first | ((apply acall (impl_squareFree _ ?_ ?_)); (focus (repeat' (first | exact rfl | (refine And.intro ?_ ?_) | (simp only [ints_len]; done) | (simp; done) | omega))))) | ((with_reducible refine (?_ : chk _ _ = true)); kernel_rfl) | exact trivial)
        · rw [no (.inl (by unfold fre; simp; omega))]
        · have hf : fre a = true := by unfold fre; simp; omega
          refine ⟨(wrap64 (0 + 1)), ?_, ?_, none, And.intro rfl (And.intro (by repeat' (first | exact trivial | exact rfl | (refine And.intro ?_ ?_))) (by repeat' (first | exact trivial | exact rfl | (refine And.intro ?_ ?_))))⟩
          · rw [wrap_small (by omega) (by omega)]
            exact ⟨by omega, by omega, fun _ => by first | exact hf | exact g3 (by omega), fun _ => by first | exact hf | exact g4 (by omega) | omega, fun _ => by first | exact hf | omega⟩
          · rw [wrap_small (by omega) (by omega)]; omega
        all_goals assumption
      · repeat' (first | ((with_reducible refine (?_ : (_ : Bool) = _)); (with_reducible rfl)) | ((with_reducible refine (?_ : (_ : Nat × Nat) = _)); (with_reducible rfl)) | (with_reducible refine leafRI ?_) | (with_reducible refine leafRB ?_) | (with_reducible refine leafI ?_) | (with_reducible refine leafB ?_) | ((with_reducible refine (?_ : (_ : Int) = _)); (with_reducible rfl)) | ((with_reducible refine (?_ : (_ : List (List Value)) = _)); (with_reducible rfl)) | ((with_reducible refine (?_ : (_ : Int) ≠ 0)); (first | assumption | omega | (simp only [ints_len] at *; omega) | (simp; omega))) | ((with_reducible refine (?_ : (_ : Int) ≤ _)); (first | assumption | omega | (simp only [ints_len] at *; omega) | (simp; omega))) | ((with_reducible refine (?_ : (_ : Int) < _)); (first | assumption | omega | (simp only [ints_len] at *; omega) | (simp; omega))) | ((with_reducible refine (?_ : (_ : Nat) ≤ _)); (first | omega | (simp only [List.length_cons, List.length_nil]; omega) | (simp; omega))) | ((with_reducible refine (?_ : (_ : Nat) = _)); (first | (with_reducible rfl) | (simp; done) | (simp only [fr_len]) | (simp only [ints_len]) | omega | (simp [*]; done))) | (refine And.intro ?_ ?_) | (intro h; first | (exact Bool.noConfusion h) | ((simp only [decide_eq_true_eq, decide_eq_false_iff_not, beq_iff_eq, bne_iff_ne, ne_eq, beq_eq_false_iff_ne, bne_eq_false_iff_eq, Bool.not_eq_true', Bool.not_eq_false', Bool.not_eq_true, Bool.not_eq_false, Int.not_le, Int.not_lt, Bool.and_eq_true, Bool.or_eq_true, Bool.or_eq_false_iff, Bool.and_eq_false_iff] at h); (try (exfalso; omega))) | skip) | ((with_reducible refine (?_ : chk _ _ = true)); kernel_rfl) | exact trivial)
        refine ⟨1, rfl, by omega, ?_⟩
        repeat' (first | ((with_reducible refine (?_ : (_ : Bool) = _)); (with_reducible rfl)) | ((with_reducible refine (?_ : (_ : Nat × Nat) = _)); (with_reducible rfl)) | (with_reducible refine leafRI ?_) | (with_reducible refine leafRB ?_) | (with_reducible refine leafI ?_) | (with_reducible refine leafB ?_) | ((with_reducible refine (?_ : (_ : Int) = _)); (with_reducible rfl)) | ((with_reducible refine (?_ : (_ : List (List Value)) = _)); (with_reducible rfl)) | ((with_reducible refine (?_ : (_ : Int) ≠ 0)); (first | assumption | omega | (simp only [ints_len] at *; omega) | (simp; omega))) | ((with_reducible refine (?_ : (_ : Int) ≤ _)); (first | assumption | omega | (simp only [ints_len] at *; omega) | (simp; omega))) | ((with_reducible refine (?_ : (_ : Int) < _)); (first | assumption | omega | (simp only [ints_len] at *; omega) | (simp; omega))) | ((with_reducible refine (?_ : (_ : Nat) ≤ _)); (first | omega | (simp only [List.length_cons, List.length_nil]; omega) | (simp; omega))) | ((with_reducible refine (?_ : (_ : Nat) = _)); (first | (with_reducible rfl) | (simp; done) | (simp only [fr_len]) | (simp only [ints_len]) | omega | (simp [*]; done))) | (refine And.intro ?_ ?_) | (intro h; first | (exact Bool.noConfusion h) | ((simp only [decide_eq_true_eq, decide_eq_false_iff_not, beq_iff_eq, bne_iff_ne, ne_eq, beq_eq_false_iff_ne, bne_eq_false_iff_eq, Bool.not_eq_true', Bool.not_eq_false', Bool.not_eq_true, Bool.not_eq_false, Int.not_le, Int.not_lt, Bool.and_eq_true, Bool.or_eq_true, Bool.or_eq_false_iff, Bool.and_eq_false_iff] at h); (try (exfalso; omega))) | skip) | ((refine (?_ : ACall _ _ _ _ _ _ _)); first | ((apply acall (impl_squareFree _ ?_ ?_)); (focus (repeat' (first | exact rfl | (refine And.intro ?_ ?_) | (simp only [ints_len]; done) | (simp; done) | omega))))) | ((with_reducible refine (?_ : chk _ _ = true)); kernel_rfl) | exact trivial)
        · rw [no (.inr (.inl (by unfold fre; simp; omega)))]
        · have hf : fre b = true := by unfold fre; simp; omega
          refine ⟨(wrap64 (1 + 1)), ?_, ?_, none, And.intro rfl (And.intro (by repeat' (first | exact trivial | exact rfl | (refine And.intro ?_ ?_))) (by repeat' (first | exact trivial | exact rfl | (refine And.intro ?_ ?_))))⟩
          · rw [wrap_small (by omega) (by omega)]
            exact ⟨by omega, by omega, fun _ => by first | exact hf | exact g3 (by omega), fun _ => by first | exact hf | exact g4 (by omega) | omega, fun _ => by first | exact hf | omega⟩
          · rw [wrap_small (by omega) (by omega)]; omega
        all_goals assumption
      · repeat' (first | ((with_reducible refine (?_ : (_ : Bool) = _)); (with_reducible rfl)) | ((with_reducible refine (?_ : (_ : Nat × Nat) = _)); (with_reducible rfl)) | (with_reducible refine leafRI ?_) | (with_reducible refine leafRB ?_) | (with_reducible refine leafI ?_) | (with_reducible refine leafB ?_) | ((with_reducible refine (?_ : (_ : Int) = _)); (with_reducible rfl)) | ((with_reducible refine (?_ : (_ : List (List Value)) = _)); (with_reducible rfl)) | ((with_reducible refine (?_ : (_ : Int) ≠ 0)); (first | assumption | omega | (simp only [ints_len] at *; omega) | (simp; omega))) | ((with_reducible refine (?_ : (_ : Int) ≤ _)); (first | assumption | omega | (simp only [ints_len] at *; omega) | (simp; omega))) | ((with_reducible refine (?_ : (_ : Int) < _)); (first | assumption | omega | (simp only [ints_len] at *; omega) | (simp; omega))) | ((with_reducible refine (?_ : (_ : Nat) ≤ _)); (first | omega | (simp only [List.length_cons, List.length_nil]; omega) | (simp; omega))) | ((with_reducible refine (?_ : (_ : Nat) = _)); (first | (with_reducible rfl) | (simp; done) | (simp only [fr_len]) | (simp only [ints_len]) | omega | (simp [*]; done))) | (refine And.intro ?_ ?_) | (intro h; first | (exact Bool.noConfusion h) | ((simp only [decide_eq_true_eq, decide_eq_false_iff_not, beq_iff_eq, bne_iff_ne, ne_eq, beq_eq_false_iff_ne, bne_eq_false_iff_eq, Bool.not_eq_true', Bool.not_eq_false', Bool.not_eq_true, Bool.not_eq_false, Int.not_le, Int.not_lt, Bool.and_eq_true, Bool.or_eq_true, Bool.or_eq_false_iff, Bool.and_eq_false_iff] at h); (try (exfalso; omega))) | skip) | ((with_reducible refine (?_ : chk _ _ = true)); kernel_rfl) | exact trivial)
        refine ⟨2, rfl, by omega, ?_⟩
        repeat' (first | ((with_reducible refine (?_ : (_ : Bool) = _)); (with_reducible rfl)) | ((with_reducible refine (?_ : (_ : Nat × Nat) = _)); (with_reducible rfl)) | (with_reducible refine leafRI ?_) | (with_reducible refine leafRB ?_) | (with_reducible refine leafI ?_) | (with_reducible refine leafB ?_) | ((with_reducible refine (?_ : (_ : Int) = _)); (with_reducible rfl)) | ((with_reducible refine (?_ : (_ : List (List Value)) = _)); (with_reducible rfl)) | ((with_reducible refine (?_ : (_ : Int) ≠ 0)); (first | assumption | omega | (simp only [ints_len] at *; omega) | (simp; omega))) | ((with_reducible refine (?_ : (_ : Int) ≤ _)); (first | assumption | omega | (simp only [ints_len] at *; omega) | (simp; omega))) | ((with_reducible refine (?_ : (_ : Int) < _)); (first | assumption | omega | (simp only [ints_len] at *; omega) | (simp; omega))) | ((with_reducible refine (?_ : (_ : Nat) ≤ _)); (first | omega | (simp only [List.length_cons, List.length_nil]; omega) | (simp; omega))) | ((with_reducible refine (?_ : (_ : Nat) = _)); (first | (with_reducible rfl) | (simp; done) | (simp only [fr_len]) | (simp only [ints_len]) | omega | (simp [*]; done))) | (refine And.intro ?_ ?_) | (intro h; first | (exact Bool.noConfusion h) | ((simp only [decide_eq_true_eq, decide_eq_false_iff_not, beq_iff_eq, bne_iff_ne, ne_eq, beq_eq_false_iff_ne, bne_eq_false_iff_eq, Bool.not_eq_true', Bool.not_eq_false', Bool.not_eq_true, Bool.not_eq_false, Int.not_le, Int.not_lt, Bool.and_eq_true, Bool.or_eq_true, Bool.or_eq_false_iff, Bool.and_eq_false_iff] at h); (try (exfalso; omega))) | skip) | ((refine (?_ : ACall _ _ _ _ _ _ _)); first | ((apply acall (impl_squareFree _ ?_ ?_)); (focus (repeat' (first | exact rfl | (refine And.intro ?_ ?_) | (simp only [ints_len]; done) | (simp; done) | omega))))) | ((with_reducible refine (?_ : chk _ _ = true)); kernel_rfl) | exact trivial)
        · rw [no (.inr (.inr (by unfold fre; simp; omega)))]
        · have hf : fre c = true := by unfold fre; simp; omega
          refine ⟨(wrap64 (2 + 1)), ?_, ?_, none, And.intro rfl (And.intro (by repeat' (first | exact trivial | exact rfl | (refine And.intro ?_ ?_))) (by repeat' (first | exact trivial | exact rfl | (refine And.intro ?_ ?_))))⟩
          · rw [wrap_small (by omega) (by omega)]
            exact ⟨by omega, by omega, fun _ => by first | exact hf | exact g3 (by omega), fun _ => by first | exact hf | exact g4 (by omega) | omega, fun _ => by first | exact hf | omega⟩
          · rw [wrap_small (by omega) (by omega)]; omega
        all_goals assumption
    · have h1 := g3 (by omega)
      have h2 := g4 (by omega)
      have h3 := g5 (by omega)
      repeat' (first | ((with_reducible refine (?_ : (_ : Bool) = _)); (with_reducible rfl)) | ((with_reducible refine (?_ : (_ : Nat × Nat) = _)); (with_reducible rfl)) | (with_reducible refine leafRI ?_) | (with_reducible refine leafRB ?_) | (with_reducible refine leafI ?_) | (with_reducible refine leafB ?_) | ((with_reducible refine (?_ : (_ : Int) = _)); (with_reducible rfl)) | ((with_reducible refine (?_ : (_ : List (List Value)) = _)); (with_reducible rfl)) | ((with_reducible refine (?_ : (_ : Int) ≠ 0)); (first | assumption | omega | (simp only [ints_len] at *; omega) | (simp; omega))) | ((with_reducible refine (?_ : (_ : Int) ≤ _)); (first | assumption | omega | (simp only [ints_len] at *; omega) | (simp; omega))) | ((with_reducible refine (?_ : (_ : Int) < _)); (first | assumption | omega | (simp only [ints_len] at *; omega) | (simp; omega))) | ((with_reducible refine (?_ : (_ : Nat) ≤ _)); (first | omega | (simp only [List.length_cons, List.length_nil]; omega) | (simp; omega))) | ((with_reducible refine (?_ : (_ : Nat) = _)); (first | (with_reducible rfl) | (simp; done) | (simp only [fr_len]) | (simp only [ints_len]) | omega | (simp [*]; done))) | (refine And.intro ?_ ?_) | (intro h; first | (exact Bool.noConfusion h) | ((simp only [decide_eq_true_eq, decide_eq_false_iff_not, beq_iff_eq, bne_iff_ne, ne_eq, beq_eq_false_iff_ne, bne_eq_false_iff_eq, Bool.not_eq_true', Bool.not_eq_false', Bool.not_eq_true, Bool.not_eq_false, Int.not_le, Int.not_lt, Bool.and_eq_true, Bool.or_eq_true, Bool.or_eq_false_iff, Bool.and_eq_false_iff] at h); (try (exfalso; omega))) | skip) | ((refine (?_ : ACall _ _ _ _ _ _ _)); first | ((apply acall (impl_gcd _ _ ?_ ?_ ?_ ?_)); (focus (repeat' (first | exact rfl | (refine And.intro ?_ ?_) | (simp only [ints_len]; done) | (simp; done) | omega))))) | ((with_reducible refine (?_ : chk _ _ = true)); kernel_rfl) | exact trivial)
      all_goals (first | omega | (unfold nrm; grind))

def inB (a b c : Int) : Bool := coef a && coef b && coef c
abbrev PBB (x y : Bool) : V := .tup [(false, [cB x]), (false, [cB y])]

theorem spec_IsNormalTriple (a b c : Int) (_la : -9223372036854775808 ≤ a) (_ua : a ≤ 9223372036854775807) (_lb : -9223372036854775808 ≤ b) (_ub : b ≤ 9223372036854775807) (_lc : -9223372036854775808 ≤ c) (_uc : c ≤ 9223372036854775807) : AFun Try.prog 23 [] [Tri a b c] (PBB (inB a b c && nrm a b c) (inB a b c)) [] [] := by
  have ha := coef_bd (n := a)
  have hb := coef_bd (n := b)
  have hc := coef_bd (n := c)
  refine afun_intro fn23 (by simp) rfl (by repeat' (first | exact trivial | (simp; done) | refine ⟨?_, ?_⟩)) ?_
  unfold ac23
  repeat' (first | ((with_reducible refine (?_ : (_ : Bool) = _)); (with_reducible rfl)) | ((with_reducible refine (?_ : (_ : Nat × Nat) = _)); (with_reducible rfl)) | (with_reducible refine leafRI ?_) | (with_reducible refine leafRB ?_) | (with_reducible refine leafI ?_) | (with_reducible refine leafB ?_) | ((with_reducible refine (?_ : (_ : Int) = _)); (with_reducible rfl)) | ((with_reducible refine (?_ : (_ : List (List Value)) = _)); (with_reducible rfl)) | ((with_reducible refine (?_ : (_ : Int) ≠ 0)); (first | assumption | omega | (simp only [ints_len] at *; omega) | (simp; omega))) | ((with_reducible refine (?_ : (_ : Int) ≤ _)); (first | assumption | omega | (simp only [ints_len] at *; omega) | (simp; omega))) | ((with_reducible refine (?_ : (_ : Int) < _)); (first | assumption | omega | (simp only [ints_len] at *; omega) | (simp; omega))) | ((with_reducible refine (?_ : (_ : Nat) ≤ _)); (first | omega | (simp only [List.length_cons, List.length_nil]; omega) | (simp; omega))) | ((with_reducible refine (?_ : (_ : Nat) = _)); (first | (with_reducible rfl) | (simp; done) | (simp only [fr_len]) | (simp only [ints_len]) | omega | (simp [*]; done))) | (refine And.intro ?_ ?_) | (intro h; first | (exact Bool.noConfusion h) | ((simp only [decide_eq_true_eq, decide_eq_false_iff_not, beq_iff_eq, bne_iff_ne, ne_eq, beq_eq_false_iff_ne, bne_eq_false_iff_eq, Bool.not_eq_true', Bool.not_eq_false', Bool.not_eq_true, Bool.not_eq_false, Int.not_le, Int.not_lt, Bool.and_eq_true, Bool.or_eq_true, Bool.or_eq_false_iff, Bool.and_eq_false_iff] at h); (try (first | (exact Bool.noConfusion h) | (exact (h trivial).elim)))) | skip) | ((refine (?_ : ACall _ _ _ _ _ _ _)); first | ((apply acall (spec_cnGood _ _ _)); (focus (repeat' (first | exact rfl | (refine And.intro ?_ ?_) | (simp only [ints_len]; done) | (simp; done) | omega)))) | ((apply acall (spec_cnNormal _ _ _ ?_ ?_ ?_ ?_ ?_ ?_)); (focus (repeat' (first | exact rfl | (refine And.intro ?_ ?_) | (simp only [ints_len]; done) | (simp; done) | omega))))) | ((with_reducible refine (?_ : chk _ _ = true)); kernel_rfl) | exact trivial)
  all_goals (first | assumption | (unfold inB; grind) | grind)

theorem impl_IsNormalTriple (a b c : Int) (_la : -9223372036854775808 ≤ a) (_ua : a ≤ 9223372036854775807) (_lb : -9223372036854775808 ≤ b) (_ub : b ≤ 9223372036854775807) (_lc : -9223372036854775808 ≤ c) (_uc : c ≤ 9223372036854775807) : AFun Try.prog 24 [] [Tri a b c] (PBB (inB a b c && nrm a b c) (inB a b c)) [] [] := by
  have ha := coef_bd (n := a)
  have hb := coef_bd (n := b)
  have hc := coef_bd (n := c)
  refine afun_intro fn24 (by simp) rfl (by repeat' (first | exact trivial | (simp; done) | refine ⟨?_, ?_⟩)) ?_
  unfold ac24
  repeat' (first | ((with_reducible refine (?_ : (_ : Bool) = _)); (with_reducible rfl)) | ((with_reducible refine (?_ : (_ : Nat × Nat) = _)); (with_reducible rfl)) | (with_reducible refine leafRI ?_) | (with_reducible refine leafRB ?_) | (with_reducible refine leafI ?_) | (with_reducible refine leafB ?_) | ((with_reducible refine (?_ : (_ : Int) = _)); (with_reducible rfl)) | ((with_reducible refine (?_ : (_ : List (List Value)) = _)); (with_reducible rfl)) | ((with_reducible refine (?_ : (_ : Int) ≠ 0)); (first | assumption | omega | (simp only [ints_len] at *; omega) | (simp; omega))) | ((with_reducible refine (?_ : (_ : Int) ≤ _)); (first | assumption | omega | (simp only [ints_len] at *; omega) | (simp; omega))) | ((with_reducible refine (?_ : (_ : Int) < _)); (first | assumption | omega | (simp only [ints_len] at *; omega) | (simp; omega))) | ((with_reducible refine (?_ : (_ : Nat) ≤ _)); (first | omega | (simp only [List.length_cons, List.length_nil]; omega) | (simp; omega))) | ((with_reducible refine (?_ : (_ : Nat) = _)); (first | (with_reducible rfl) | (simp; done) | (simp only [fr_len]) | (simp only [ints_len]) | omega | (simp [*]; done))) | (refine And.intro ?_ ?_) | (intro h; first | (exact Bool.noConfusion h) | ((simp only [decide_eq_true_eq, decide_eq_false_iff_not, beq_iff_eq, bne_iff_ne, ne_eq, beq_eq_false_iff_ne, bne_eq_false_iff_eq, Bool.not_eq_true', Bool.not_eq_false', Bool.not_eq_true, Bool.not_eq_false, Int.not_le, Int.not_lt, Bool.and_eq_true, Bool.or_eq_true, Bool.or_eq_false_iff, Bool.and_eq_false_iff] at h); (try (first | (exact Bool.noConfusion h) | (exact (h trivial).elim)))) | skip) | ((refine (?_ : ACall _ _ _ _ _ _ _)); first | ((apply acall (impl_isTriple _ _ _ ?_ ?_ ?_ ?_ ?_ ?_)); (focus (repeat' (first | exact rfl | (refine And.intro ?_ ?_) | (simp only [ints_len]; done) | (simp; done) | omega)))) | ((apply acall (impl_TisNormal _ _ _ ?_ ?_ ?_ ?_ ?_ ?_)); (focus (repeat' (first | exact rfl | (refine And.intro ?_ ?_) | (simp only [ints_len]; done) | (simp; done) | omega))))) | ((with_reducible refine (?_ : chk _ _ = true)); kernel_rfl) | exact trivial)
  all_goals (first | assumption | (unfold inB; grind) | grind)


theorem laws_toTriple (a b c : Int) : AFun Try.prog 16 [] [Tri a b c] (Tri a b c) [] [] := by
  refine afun_intro fn16 (by simp) rfl (by repeat' (first | exact trivial | (simp; done) | refine ⟨?_, ?_⟩)) ?_
  unfold ac16
  repeat' (first | ((with_reducible refine (?_ : (_ : Bool) = _)); (with_reducible rfl)) | ((with_reducible refine (?_ : (_ : Nat × Nat) = _)); (with_reducible rfl)) | (with_reducible refine leafRI ?_) | (with_reducible refine leafRB ?_) | (with_reducible refine leafI ?_) | (with_reducible refine leafB ?_) | ((with_reducible refine (?_ : (_ : Int) = _)); (with_reducible rfl)) | ((with_reducible refine (?_ : (_ : List (List Value)) = _)); (with_reducible rfl)) | ((with_reducible refine (?_ : (_ : Int) ≠ 0)); (first | assumption | omega | (simp only [ints_len] at *; omega) | (simp; omega))) | ((with_reducible refine (?_ : (_ : Int) ≤ _)); (first | assumption | omega | (simp only [ints_len] at *; omega) | (simp; omega))) | ((with_reducible refine (?_ : (_ : Int) < _)); (first | assumption | omega | (simp only [ints_len] at *; omega) | (simp; omega))) | ((with_reducible refine (?_ : (_ : Nat) ≤ _)); (first | omega | (simp only [List.length_cons, List.length_nil]; omega) | (simp; omega))) | ((with_reducible refine (?_ : (_ : Nat) = _)); (first | (with_reducible rfl) | (simp; done) | (simp only [fr_len]) | (simp only [ints_len]) | omega | (simp [*]; done))) | (refine And.intro ?_ ?_) | (intro h; first | (exact Bool.noConfusion h) | ((simp only [decide_eq_true_eq, decide_eq_false_iff_not, beq_iff_eq, bne_iff_ne, ne_eq, beq_eq_false_iff_ne, bne_eq_false_iff_eq, Bool.not_eq_true', Bool.not_eq_false', Bool.not_eq_true, Bool.not_eq_false, Int.not_le, Int.not_lt, Bool.and_eq_true, Bool.or_eq_true, Bool.or_eq_false_iff, Bool.and_eq_false_iff] at h); (try (first | (exact Bool.noConfusion h) | (exact (h trivial).elim)))) | skip) | ((with_reducible refine (?_ : chk _ _ = true)); kernel_rfl) | exact trivial)

theorem claw_IsNormalTriple (a b c : Int) (_la : -9223372036854775808 ≤ a) (_ua : a ≤ 9223372036854775807) (_lb : -9223372036854775808 ≤ b) (_ub : b ≤ 9223372036854775807) (_lc : -9223372036854775808 ≤ c) (_uc : c ≤ 9223372036854775807) : AFun Try.prog 5 [] [Tri a b c] (Bo true) [] [] := by
  refine afun_intro fn5 (by simp) rfl (by repeat' (first | exact trivial | (simp; done) | refine ⟨?_, ?_⟩)) ?_
  unfold ac5
  repeat' (first | ((with_reducible refine (?_ : (_ : Bool) = _)); (with_reducible rfl)) | ((with_reducible refine (?_ : (_ : Nat × Nat) = _)); (with_reducible rfl)) | (with_reducible refine leafRI ?_) | (with_reducible refine leafRB ?_) | (with_reducible refine leafI ?_) | (with_reducible refine leafB ?_) | ((with_reducible refine (?_ : (_ : Int) = _)); (with_reducible rfl)) | ((with_reducible refine (?_ : (_ : List (List Value)) = _)); (with_reducible rfl)) | ((with_reducible refine (?_ : (_ : Int) ≠ 0)); (first | assumption | omega | (simp only [ints_len] at *; omega) | (simp; omega))) | ((with_reducible refine (?_ : (_ : Int) ≤ _)); (first | assumption | omega | (simp only [ints_len] at *; omega) | (simp; omega))) | ((with_reducible refine (?_ : (_ : Int) < _)); (first | assumption | omega | (simp only [ints_len] at *; omega) | (simp; omega))) | ((with_reducible refine (?_ : (_ : Nat) ≤ _)); (first | omega | (simp only [List.length_cons, List.length_nil]; omega) | (simp; omega))) | ((with_reducible refine (?_ : (_ : Nat) = _)); (first | (with_reducible rfl) | (simp; done) | (simp only [fr_len]) | (simp only [ints_len]) | omega | (simp [*]; done))) | (refine And.intro ?_ ?_) | (intro h; first | (exact Bool.noConfusion h) | ((simp only [decide_eq_true_eq, decide_eq_false_iff_not, beq_iff_eq, bne_iff_ne, ne_eq, beq_eq_false_iff_ne, bne_eq_false_iff_eq, Bool.not_eq_true', Bool.not_eq_false', Bool.not_eq_true, Bool.not_eq_false, Int.not_le, Int.not_lt, Bool.and_eq_true, Bool.or_eq_true, Bool.or_eq_false_iff, Bool.and_eq_false_iff] at h); (try (first | (exact Bool.noConfusion h) | (exact (h trivial).elim)))) | skip) | ((refine (?_ : ACall _ _ _ _ _ _ _)); first | ((apply acall (laws_toTriple _ _ _)); (focus (repeat' (first | exact rfl | (refine And.intro ?_ ?_) | (simp only [ints_len]; done) | (simp; done) | omega)))) | ((apply acall (spec_IsNormalTriple _ _ _ ?_ ?_ ?_ ?_ ?_ ?_)); (focus (repeat' (first | exact rfl | (refine And.intro ?_ ?_) | (simp only [ints_len]; done) | (simp; done) | omega)))) | ((apply acall (impl_IsNormalTriple _ _ _ ?_ ?_ ?_ ?_ ?_ ?_)); (focus (repeat' (first | exact rfl | (refine And.intro ?_ ?_) | (simp only [ints_len]; done) | (simp; done) | omega))))) | ((with_reducible refine (?_ : chk _ _ = true)); kernel_rfl) | exact trivial)
  all_goals (first | assumption | simp_all)

theorem law_IsNormalTriple (a b c : Int) (w : World) (_la : -9223372036854775808 ≤ a) (_ua : a ≤ 9223372036854775807) (_lb : -9223372036854775808 ≤ b) (_ub : b ≤ 9223372036854775807) (_lc : -9223372036854775808 ≤ c) (_uc : c ≤ 9223372036854775807) : Calls Try.prog 5 #[.agg #[.int .i64 a, .int .i64 b, .int .i64 c]] w fun e w' => e = .returned (.bool (true)) ∧ Below w.heap.size w w' := by
  exact law_of_afun (claw_IsNormalTriple a b c _la _ua _lb _ub _lc _uc) rfl w

/-! LegendreRoots -/
def rtF (m k r : Int) : Bool := (r * r + k).tmod m == 0
def lrO (m k : Int) : Option Int := find (rtF m k) m.natAbs 0
def optI (o : Option Int) (d : Int) : Int := match o with
  | some r => r
  | none => d
theorem rtF_abs (m k r : Int) : (r * r + k).tmod (m.natAbs : Int) == 0 ↔ rtF m k r = true := by
  simp only [rtF, beq_iff_eq]
  rw [← Int.dvd_iff_tmod_eq_zero, ← Int.dvd_iff_tmod_eq_zero]
  exact Int.natAbs_dvd

theorem spec_cnRoot (m k : Int) (h0 : m.natAbs ≤ 400) (h1 : m ≠ 0) (h2 : -160000 ≤ k) (h3 : k ≤ 160000) : AFun Try.prog 80 [] [I m, I k] (I (optI (lrO m k) (-1))) [] [] := by
  refine afun_intro fn80 (by simp) rfl (by repeat' (first | exact trivial | (simp; done) | refine ⟨?_, ?_⟩)) ?_
  unfold ac80
  refine loop_rule (σ := Int) (fun s => [(5, I s)]) (fun _ => []) (fun s => 0 ≤ s ∧ s ≤ m.natAbs ∧ lrO m k = find (rtF m k) ((m.natAbs : Int) - s).toNat s) (fun s => ((m.natAbs : Int) - s).toNat) (0) ?_ (by repeat' (first | exact trivial | exact rfl | (refine And.intro ?_ ?_))) trivial (fun s => ⟨rfl, rfl⟩) (fun s i h => by first | exact absurd h (Nat.not_lt_zero i) | (cases i with | zero => rfl | succ i => exact absurd (Nat.lt_of_succ_lt_succ h) (Nat.not_lt_zero i))) ?_
  · exact ⟨by omega, by omega, by rw [Int.sub_zero]; rfl⟩
  · rintro r ⟨g1, g2, g3⟩
    have b1 := mul_bd (a := r) (b := r) (A := 400) (B := 400) (by omega) (by omega) (by omega) (by omega)
    have w1 : wrap64 (r * r) = r * r := wrap_small (by omega) (by omega)
    have w2 : wrap64 (r * r + k) = r * r + k := wrap_small (by omega) (by omega)
    have w3 : wrap64 (r + 1) = r + 1 := wrap_small (by omega) (by omega)
    have fh : rtF m k r = true → r < m.natAbs → lrO m k = some r := fun h1 h2 => by rw [g3, find_hit (f := rtF m k) h2 h1]
    have fm : rtF m k r = false → r < m.natAbs → lrO m k = find (rtF m k) ((m.natAbs : Int) - (r + 1)).toNat (r + 1) := fun h1 h2 => by rw [g3, find_next (f := rtF m k) h2 h1]
    have fn : (m.natAbs : Int) ≤ r → lrO m k = none := fun h => by rw [g3, find_none (f := rtF m k) h]
    repeat' (first | ((with_reducible refine (?_ : (_ : Bool) = _)); (with_reducible rfl)) | ((with_reducible refine (?_ : (_ : Nat × Nat) = _)); (with_reducible rfl)) | (with_reducible refine leafRI ?_) | (with_reducible refine leafRB ?_) | (with_reducible refine leafI ?_) | (with_reducible refine leafB ?_) | ((with_reducible refine (?_ : (_ : Int) = _)); (with_reducible rfl)) | ((with_reducible refine (?_ : (_ : List (List Value)) = _)); (with_reducible rfl)) | ((with_reducible refine (?_ : (_ : Int) ≠ 0)); (first | assumption | omega | (simp only [ints_len] at *; omega) | (simp; omega))) | ((with_reducible refine (?_ : (_ : Int) ≤ _)); (first | assumption | omega | (simp only [ints_len] at *; omega) | (simp; omega))) | ((with_reducible refine (?_ : (_ : Int) < _)); (first | assumption | omega | (simp only [ints_len] at *; omega) | (simp; omega))) | ((with_reducible refine (?_ : (_ : Nat) ≤ _)); (first | omega | (simp only [List.length_cons, List.length_nil]; omega) | (simp; omega))) | ((with_reducible refine (?_ : (_ : Nat) = _)); (first | (with_reducible rfl) | (simp; done) | (simp only [fr_len]) | (simp only [ints_len]) | omega | (simp [*]; done))) | (refine And.intro ?_ ?_) | (intro h; first | (exact Bool.noConfusion h) | ((simp only [decide_eq_true_eq, decide_eq_false_iff_not, beq_iff_eq, bne_iff_ne, ne_eq, beq_eq_false_iff_ne, bne_eq_false_iff_eq, Bool.not_eq_true', Bool.not_eq_false', Bool.not_eq_true, Bool.not_eq_false, Int.not_le, Int.not_lt, Bool.and_eq_true, Bool.or_eq_true, Bool.or_eq_false_iff, Bool.and_eq_false_iff] at h); (try (first | (exact Bool.noConfusion h) | (exact (h trivial).elim)))) | skip) | ((refine (?_ : ACall _ _ _ _ _ _ _)); first | ((apply acall (spec_l1Abs _ ?_ ?_)); (focus (repeat' (first | exact rfl | (refine And.intro ?_ ?_) | (simp only [ints_len]; done) | (simp; done) | omega))))) | ((with_reducible refine (?_ : chk _ _ = true)); kernel_rfl) | exact trivial)
    · rw [w1, w2] at h
      rw [fh (by simp [rtF, h]) (by omega)]; rfl
    · rw [w1, w2] at h
      refine ⟨_, ?_, ?_, none, And.intro rfl (And.intro (by repeat' (first | exact trivial | exact rfl | (refine And.intro ?_ ?_))) (by repeat' (first | exact trivial | exact rfl | (refine And.intro ?_ ?_))))⟩
      · rw [w3]; exact ⟨by omega, by omega, fm (by simp [rtF, h]) (by omega)⟩
      · rw [w3]; omega
    · rw [fn h]; rfl

theorem impl_leastRoot (m k : Int) (h0 : m.natAbs ≤ 400) (h1 : m ≠ 0) (h2 : -160000 ≤ k) (h3 : k ≤ 160000) : AFun Try.prog 81 [] [I m, I k] (PI (optI (lrO m k) 0) (lrO m k).isSome) [] [] := by
  refine afun_intro fn81 (by simp) rfl (by repeat' (first | exact trivial | (simp; done) | refine ⟨?_, ?_⟩)) ?_
  unfold ac81
  repeat' (first | ((with_reducible refine (?_ : (_ : Bool) = _)); (with_reducible rfl)) | ((with_reducible refine (?_ : (_ : Nat × Nat) = _)); (with_reducible rfl)) | (with_reducible refine leafRI ?_) | (with_reducible refine leafRB ?_) | (with_reducible refine leafI ?_) | (with_reducible refine leafB ?_) | ((with_reducible refine (?_ : (_ : Int) = _)); (with_reducible rfl)) | ((with_reducible refine (?_ : (_ : List (List Value)) = _)); (with_reducible rfl)) | ((with_reducible refine (?_ : (_ : Int) ≠ 0)); (first | assumption | omega | (simp only [ints_len] at *; omega) | (simp; omega))) | ((with_reducible refine (?_ : (_ : Int) ≤ _)); (first | assumption | omega | (simp only [ints_len] at *; omega) | (simp; omega))) | ((with_reducible refine (?_ : (_ : Int) < _)); (first | assumption | omega | (simp only [ints_len] at *; omega) | (simp; omega))) | ((with_reducible refine (?_ : (_ : Nat) ≤ _)); (first | omega | (simp only [List.length_cons, List.length_nil]; omega) | (simp; omega))) | ((with_reducible refine (?_ : (_ : Nat) = _)); (first | (with_reducible rfl) | (simp; done) | (simp only [fr_len]) | (simp only [ints_len]) | omega | (simp [*]; done))) | (refine And.intro ?_ ?_) | (intro h; first | (exact Bool.noConfusion h) | ((simp only [decide_eq_true_eq, decide_eq_false_iff_not, beq_iff_eq, bne_iff_ne, ne_eq, beq_eq_false_iff_ne, bne_eq_false_iff_eq, Bool.not_eq_true', Bool.not_eq_false', Bool.not_eq_true, Bool.not_eq_false, Int.not_le, Int.not_lt, Bool.and_eq_true, Bool.or_eq_true, Bool.or_eq_false_iff, Bool.and_eq_false_iff] at h); (try (first | (exact Bool.noConfusion h) | (exact (h trivial).elim)))) | skip) | ((refine (?_ : ACall _ _ _ _ _ _ _)); first | ((apply acall (impl_abs _ ?_ ?_)); (focus (repeat' (first | exact rfl | (refine And.intro ?_ ?_) | (simp only [ints_len]; done) | (simp; done) | omega))))) | ((with_reducible refine (?_ : chk _ _ = true)); kernel_rfl) | exact trivial)
  refine loop_rule (σ := Int) (fun s => [(6, I s)]) (fun _ => []) (fun s => 0 ≤ s ∧ s ≤ m.natAbs ∧ lrO m k = find (rtF m k) ((m.natAbs : Int) - s).toNat s) (fun s => ((m.natAbs : Int) - s).toNat) (0) ?_ (by repeat' (first | exact trivial | exact rfl | (refine And.intro ?_ ?_))) trivial (fun s => ⟨rfl, rfl⟩) (fun s i h => by first | exact absurd h (Nat.not_lt_zero i) | (cases i with | zero => rfl | succ i => exact absurd (Nat.lt_of_succ_lt_succ h) (Nat.not_lt_zero i))) ?_
  · exact ⟨by omega, by omega, by rw [Int.sub_zero]; rfl⟩
  · rintro r ⟨g1, g2, g3⟩
    have b1 := mul_bd (a := r) (b := r) (A := 400) (B := 400) (by omega) (by omega) (by omega) (by omega)
    have w1 : wrap64 (r * r) = r * r := wrap_small (by omega) (by omega)
    have w2 : wrap64 (r * r + k) = r * r + k := wrap_small (by omega) (by omega)
    have w3 : wrap64 (r + 1) = r + 1 := wrap_small (by omega) (by omega)
    have fh : rtF m k r = true → r < m.natAbs → lrO m k = some r := fun h1 h2 => by rw [g3, find_hit (f := rtF m k) h2 h1]
    have fm : rtF m k r = false → r < m.natAbs → lrO m k = find (rtF m k) ((m.natAbs : Int) - (r + 1)).toNat (r + 1) := fun h1 h2 => by rw [g3, find_next (f := rtF m k) h2 h1]
    have fn : (m.natAbs : Int) ≤ r → lrO m k = none := fun h => by rw [g3, find_none (f := rtF m k) h]
    have fa := rtF_abs m k r
    repeat' (first | ((with_reducible refine (?_ : (_ : Bool) = _)); (with_reducible rfl)) | ((with_reducible refine (?_ : (_ : Nat × Nat) = _)); (with_reducible rfl)) | (with_reducible refine leafRI ?_) | (with_reducible refine leafRB ?_) | (with_reducible refine leafI ?_) | (with_reducible refine leafB ?_) | ((with_reducible refine (?_ : (_ : Int) = _)); (with_reducible rfl)) | ((with_reducible refine (?_ : (_ : List (List Value)) = _)); (with_reducible rfl)) | ((with_reducible refine (?_ : (_ : Int) ≠ 0)); (first | assumption | omega | (simp only [ints_len] at *; omega) | (simp; omega))) | ((with_reducible refine (?_ : (_ : Int) ≤ _)); (first | assumption | omega | (simp only [ints_len] at *; omega) | (simp; omega))) | ((with_reducible refine (?_ : (_ : Int) < _)); (first | assumption | omega | (simp only [ints_len] at *; omega) | (simp; omega))) | ((with_reducible refine (?_ : (_ : Nat) ≤ _)); (first | omega | (simp only [List.length_cons, List.length_nil]; omega) | (simp; omega))) | ((with_reducible refine (?_ : (_ : Nat) = _)); (first | (with_reducible rfl) | (simp; done) | (simp only [fr_len]) | (simp only [ints_len]) | omega | (simp [*]; done))) | (refine And.intro ?_ ?_) | (intro h; first | (exact Bool.noConfusion h) | ((simp only [decide_eq_true_eq, decide_eq_false_iff_not, beq_iff_eq, bne_iff_ne, ne_eq, beq_eq_false_iff_ne, bne_eq_false_iff_eq, Bool.not_eq_true', Bool.not_eq_false', Bool.not_eq_true, Bool.not_eq_false, Int.not_le, Int.not_lt, Bool.and_eq_true, Bool.or_eq_true, Bool.or_eq_false_iff, Bool.and_eq_false_iff] at h); (try (first | (exact Bool.noConfusion h) | (exact (h trivial).elim)))) | skip) | ((with_reducible refine (?_ : chk _ _ = true)); kernel_rfl) | exact trivial)
    · rw [w1, w2] at h
      rw [fh (fa.1 (by simp [h])) (by omega)]; rfl
    · rw [w1, w2] at h
      rw [fh (fa.1 (by simp [h])) (by omega)]; rfl
    · rw [w1, w2] at h
      refine ⟨_, ?_, ?_, none, And.intro rfl (And.intro (by repeat' (first | exact trivial | exact rfl | (refine And.intro ?_ ?_))) (by repeat' (first | exact trivial | exact rfl | (refine And.intro ?_ ?_))))⟩
      · rw [w3]
        refine ⟨by omega, by omega, fm ?_ (by omega)⟩
        rw [Bool.eq_false_iff]
        intro hc
        exact h (by simpa using fa.2 hc)
      · rw [w3]; omega
    · rw [fn h]; rfl
    · rw [fn h]; rfl

theorem optI_neg {m k : Int} : optI (lrO m k) (-1) < 0 ↔ (lrO m k).isSome = false := by
  cases h : lrO m k with
  | none => simp [optI]
  | some r => have := find_some h; simp [optI]; omega
theorem optI_same {m k : Int} (h : (lrO m k).isSome = true) : optI (lrO m k) (-1) = optI (lrO m k) 0 := by
  cases hr : lrO m k with
  | none => rw [hr] at h; cases h
  | some r => rfl
def leB (a b c : Int) : Bool := inB a b c && nrm a b c && (lrO a (b * c)).isSome && (lrO b (a * c)).isSome && (lrO c (a * b)).isSome
def leX (a b c m k : Int) : Int := if leB a b c then optI (lrO m k) 0 else 0
theorem coef_mul {a b : Int} (ha : coef a = true) (hb : coef b = true) : wrap64 (a * b) = a * b ∧ -160000 ≤ a * b ∧ a * b ≤ 160000 := by
  have h1 := coef_bd ha
  have h2 := coef_bd hb
  have h3 := mul_bd (a := a) (b := b) (A := 400) (B := 400) (by omega) (by omega) (by omega) (by omega)
  exact ⟨wrap_small (by omega) (by omega), by omega, by omega⟩
abbrev P4i (x y z : Int) (b : Bool) : V := .tup [(false, [cI x]), (false, [cI y]), (false, [cI z]), (false, [cB b])]

theorem spec_LegendreRoots (a b c : Int) (_la : -9223372036854775808 ≤ a) (_ua : a ≤ 9223372036854775807) (_lb : -9223372036854775808 ≤ b) (_ub : b ≤ 9223372036854775807) (_lc : -9223372036854775808 ≤ c) (_uc : c ≤ 9223372036854775807) : AFun Try.prog 43 [] [Tri a b c] (P4i (leX a b c a (b * c)) (leX a b c b (a * c)) (leX a b c c (a * b)) (leB a b c)) [] [] := by
  by_cases hg : inB a b c = true
  · have hh : coef a = true ∧ coef b = true ∧ coef c = true := by unfold inB at hg; grind
    have ha := coef_bd hh.1
    have hb := coef_bd hh.2.1
    have hc := coef_bd hh.2.2
    obtain ⟨w1, u1, v1⟩ := coef_mul hh.2.1 hh.2.2
    obtain ⟨w2, u2, v2⟩ := coef_mul hh.1 hh.2.2
    obtain ⟨w3, u3, v3⟩ := coef_mul hh.1 hh.2.1
    refine afun_intro fn43 (by simp) rfl (by repeat' (first | exact trivial | (simp; done) | refine ⟨?_, ?_⟩)) ?_
    unfold ac43
    repeat' (first | ((with_reducible refine (?_ : (_ : Bool) = _)); (with_reducible rfl)) | ((with_reducible refine (?_ : (_ : Nat × Nat) = _)); (with_reducible rfl)) | (with_reducible refine leafRI ?_) | (with_reducible refine leafRB ?_) | (with_reducible refine leafI ?_) | (with_reducible refine leafB ?_) | ((with_reducible refine (?_ : (_ : Int) = _)); (with_reducible rfl)) | ((with_reducible refine (?_ : (_ : List (List Value)) = _)); (with_reducible rfl)) | ((with_reducible refine (?_ : (_ : Int) ≠ 0)); (first | assumption | omega | (simp only [ints_len] at *; omega) | (simp; omega))) | ((with_reducible refine (?_ : (_ : Int) ≤ _)); (first | assumption | omega | (simp only [ints_len] at *; omega) | (simp; omega))) | ((with_reducible refine (?_ : (_ : Int) < _)); (first | assumption | omega | (simp only [ints_len] at *; omega) | (simp; omega))) | ((with_reducible refine (?_ : (_ : Nat) ≤ _)); (first | omega | (simp only [List.length_cons, List.length_nil]; omega) | (simp; omega))) | ((with_reducible refine (?_ : (_ : Nat) = _)); (first | (with_reducible rfl) | (simp; done) | (simp only [fr_len]) | (simp only [ints_len]) | omega | (simp [*]; done))) | (refine And.intro ?_ ?_) | (intro h; first | (exact Bool.noConfusion h) | ((simp only [decide_eq_true_eq, decide_eq_false_iff_not, beq_iff_eq, bne_iff_ne, ne_eq, beq_eq_false_iff_ne, bne_eq_false_iff_eq, Bool.not_eq_true', Bool.not_eq_false', Bool.not_eq_true, Bool.not_eq_false, Int.not_le, Int.not_lt, Bool.and_eq_true, Bool.or_eq_true, Bool.or_eq_false_iff, Bool.and_eq_false_iff] at h); (try (first | (exact Bool.noConfusion h) | (exact (h trivial).elim)))) | skip) | ((refine (?_ : ACall _ _ _ _ _ _ _)); first | ((apply acall (spec_cnGood _ _ _)); (focus (repeat' (first | exact rfl | (refine And.intro ?_ ?_) | (simp only [ints_len]; done) | (simp; done) | omega)))) | ((apply acall (spec_cnNormal _ _ _ ?_ ?_ ?_ ?_ ?_ ?_)); (focus (repeat' (first | exact rfl | (refine And.intro ?_ ?_) | (simp only [ints_len]; done) | (simp; done) | omega)))) | ((apply acall (spec_cnRoot _ _ ?_ ?_ ?_ ?_)); (focus (repeat' (first | exact rfl | (refine And.intro ?_ ?_) | (simp only [ints_len]; done) | (simp; done) | omega))))) | ((with_reducible refine (?_ : chk _ _ = true)); kernel_rfl) | exact trivial)
    all_goals (first | assumption | omega | skip)
    all_goals (try rw [w1] at *)
    all_goals (try rw [w2] at *)
    all_goals (try rw [w3] at *)
    all_goals (have n1 := optI_neg (m := a) (k := b * c); have n2 := optI_neg (m := b) (k := a * c); have n3 := optI_neg (m := c) (k := a * b); have s1 := optI_same (m := a) (k := b * c); have s2 := optI_same (m := b) (k := a * c); have s3 := optI_same (m := c) (k := a * b))
    all_goals ((try unfold leX); unfold leB inB; grind)
  · have hn : leB a b c = false := by unfold leB; grind
    refine afun_intro fn43 (by simp) rfl (by repeat' (first | exact trivial | (simp; done) | refine ⟨?_, ?_⟩)) ?_
    unfold ac43
    repeat' (first | ((with_reducible refine (?_ : (_ : Bool) = _)); (with_reducible rfl)) | ((with_reducible refine (?_ : (_ : Nat × Nat) = _)); (with_reducible rfl)) | (with_reducible refine leafRI ?_) | (with_reducible refine leafRB ?_) | (with_reducible refine leafI ?_) | (with_reducible refine leafB ?_) | ((with_reducible refine (?_ : (_ : Int) = _)); (with_reducible rfl)) | ((with_reducible refine (?_ : (_ : List (List Value)) = _)); (with_reducible rfl)) | ((with_reducible refine (?_ : (_ : Int) ≠ 0)); (first | assumption | omega | (simp only [ints_len] at *; omega) | (simp; omega))) | ((with_reducible refine (?_ : (_ : Int) ≤ _)); (first | assumption | omega | (simp only [ints_len] at *; omega) | (simp; omega))) | ((with_reducible refine (?_ : (_ : Int) < _)); (first | assumption | omega | (simp only [ints_len] at *; omega) | (simp; omega))) | ((with_reducible refine (?_ : (_ : Nat) ≤ _)); (first | omega | (simp only [List.length_cons, List.length_nil]; omega) | (simp; omega))) | ((with_reducible refine (?_ : (_ : Nat) = _)); (first | (with_reducible rfl) | (simp; done) | (simp only [fr_len]) | (simp only [ints_len]) | omega | (simp [*]; done))) | (refine And.intro ?_ ?_) | (intro h; first | (exact Bool.noConfusion h) | ((simp only [decide_eq_true_eq, decide_eq_false_iff_not, beq_iff_eq, bne_iff_ne, ne_eq, beq_eq_false_iff_ne, bne_eq_false_iff_eq, Bool.not_eq_true', Bool.not_eq_false', Bool.not_eq_true, Bool.not_eq_false, Int.not_le, Int.not_lt, Bool.and_eq_true, Bool.or_eq_true, Bool.or_eq_false_iff, Bool.and_eq_false_iff] at h); (try (first | (exact Bool.noConfusion h) | (exact (h trivial).elim)))) | skip) | ((refine (?_ : ACall _ _ _ _ _ _ _)); first | ((apply acall (spec_cnGood _ _ _)); (focus (repeat' (first | exact rfl | (refine And.intro ?_ ?_) | (simp only [ints_len]; done) | (simp; done) | omega)))) | ((apply acall (spec_cnNormal _ _ _ ?_ ?_ ?_ ?_ ?_ ?_)); (focus (repeat' (first | exact rfl | (refine And.intro ?_ ?_) | (simp only [ints_len]; done) | (simp; done) | omega))))) | ((with_reducible refine (?_ : chk _ _ = true)); kernel_rfl) | exact trivial)
    all_goals (first | assumption | (simp [leX, hn]; done) | (exfalso; apply hg; unfold inB; grind) | grind)

theorem impl_LegendreRoots (a b c : Int) (_la : -9223372036854775808 ≤ a) (_ua : a ≤ 9223372036854775807) (_lb : -9223372036854775808 ≤ b) (_ub : b ≤ 9223372036854775807) (_lc : -9223372036854775808 ≤ c) (_uc : c ≤ 9223372036854775807) : AFun Try.prog 44 [] [Tri a b c] (P4i (leX a b c a (b * c)) (leX a b c b (a * c)) (leX a b c c (a * b)) (leB a b c)) [] [] := by
  by_cases hg : inB a b c = true
  · have hh : coef a = true ∧ coef b = true ∧ coef c = true := by unfold inB at hg; grind
    have ha := coef_bd hh.1
    have hb := coef_bd hh.2.1
    have hc := coef_bd hh.2.2
    obtain ⟨w1, u1, v1⟩ := coef_mul hh.2.1 hh.2.2
    obtain ⟨w2, u2, v2⟩ := coef_mul hh.1 hh.2.2
    obtain ⟨w3, u3, v3⟩ := coef_mul hh.1 hh.2.1
    refine afun_intro fn44 (by simp) rfl (by repeat' (first | exact trivial | (simp; done) | refine ⟨?_, ?_⟩)) ?_
    unfold ac44
    repeat' (first | ((with_reducible refine (?_ : (_ : Bool) = _)); (with_reducible rfl)) | ((with_reducible refine (?_ : (_ : Nat × Nat) = _)); (with_reducible rfl)) | (with_reducible refine leafRI ?_) | (with_reducible refine leafRB ?_) | (with_reducible refine leafI ?_) | (with_reducible refine leafB ?_) | ((with_reducible refine (?_ : (_ : Int) = _)); (with_reducible rfl)) | ((with_reducible refine (?_ : (_ : List (List Value)) = _)); (with_reducible rfl)) | ((with_reducible refine (?_ : (_ : Int) ≠ 0)); (first | assumption | omega | (simp only [ints_len] at *; omega) | (simp; omega))) | ((with_reducible refine (?_ : (_ : Int) ≤ _)); (first | assumption | omega | (simp only [ints_len] at *; omega) | (simp; omega))) | ((with_reducible refine (?_ : (_ : Int) < _)); (first | assumption | omega | (simp only [ints_len] at *; omega) | (simp; omega))) | ((with_reducible refine (?_ : (_ : Nat) ≤ _)); (first | omega | (simp only [List.length_cons, List.length_nil]; omega) | (simp; omega))) | ((with_reducible refine (?_ : (_ : Nat) = _)); (first | (with_reducible rfl) | (simp; done) | (simp only [fr_len]) | (simp only [ints_len]) | omega | (simp [*]; done))) | (refine And.intro ?_ ?_) | (intro h; first | (exact Bool.noConfusion h) | ((simp only [decide_eq_true_eq, decide_eq_false_iff_not, beq_iff_eq, bne_iff_ne, ne_eq, beq_eq_false_iff_ne, bne_eq_false_iff_eq, Bool.not_eq_true', Bool.not_eq_false', Bool.not_eq_true, Bool.not_eq_false, Int.not_le, Int.not_lt, Bool.and_eq_true, Bool.or_eq_true, Bool.or_eq_false_iff, Bool.and_eq_false_iff] at h); (try (first | (exact Bool.noConfusion h) | (exact (h trivial).elim)))) | skip) | ((refine (?_ : ACall _ _ _ _ _ _ _)); first | ((apply acall (impl_isTriple _ _ _ ?_ ?_ ?_ ?_ ?_ ?_)); (focus (repeat' (first | exact rfl | (refine And.intro ?_ ?_) | (simp only [ints_len]; done) | (simp; done) | omega)))) | ((apply acall (impl_TisNormal _ _ _ ?_ ?_ ?_ ?_ ?_ ?_)); (focus (repeat' (first | exact rfl | (refine And.intro ?_ ?_) | (simp only [ints_len]; done) | (simp; done) | omega)))) | ((apply acall (impl_leastRoot _ _ ?_ ?_ ?_ ?_)); (focus (repeat' (first | exact rfl | (refine And.intro ?_ ?_) | (simp only [ints_len]; done) | (simp; done) | omega))))) | ((with_reducible refine (?_ : chk _ _ = true)); kernel_rfl) | exact trivial)
    all_goals (first | assumption | omega | skip)
    all_goals (try rw [w1] at *)
    all_goals (try rw [w2] at *)
    all_goals (try rw [w3] at *)
    all_goals (have n1 := optI_neg (m := a) (k := b * c); have n2 := optI_neg (m := b) (k := a * c); have n3 := optI_neg (m := c) (k := a * b); have s1 := optI_same (m := a) (k := b * c); have s2 := optI_same (m := b) (k := a * c); have s3 := optI_same (m := c) (k := a * b))
    all_goals ((try unfold leX); unfold leB inB; grind)
  · have hn : leB a b c = false := by unfold leB; grind
    refine afun_intro fn44 (by simp) rfl (by repeat' (first | exact trivial | (simp; done) | refine ⟨?_, ?_⟩)) ?_
    unfold ac44
    repeat' (first | ((with_reducible refine (?_ : (_ : Bool) = _)); (with_reducible rfl)) | ((with_reducible refine (?_ : (_ : Nat × Nat) = _)); (with_reducible rfl)) | (with_reducible refine leafRI ?_) | (with_reducible refine leafRB ?_) | (with_reducible refine leafI ?_) | (with_reducible refine leafB ?_) | ((with_reducible refine (?_ : (_ : Int) = _)); (with_reducible rfl)) | ((with_reducible refine (?_ : (_ : List (List Value)) = _)); (with_reducible rfl)) | ((with_reducible refine (?_ : (_ : Int) ≠ 0)); (first | assumption | omega | (simp only [ints_len] at *; omega) | (simp; omega))) | ((with_reducible refine (?_ : (_ : Int) ≤ _)); (first | assumption | omega | (simp only [ints_len] at *; omega) | (simp; omega))) | ((with_reducible refine (?_ : (_ : Int) < _)); (first | assumption | omega | (simp only [ints_len] at *; omega) | (simp; omega))) | ((with_reducible refine (?_ : (_ : Nat) ≤ _)); (first | omega | (simp only [List.length_cons, List.length_nil]; omega) | (simp; omega))) | ((with_reducible refine (?_ : (_ : Nat) = _)); (first | (with_reducible rfl) | (simp; done) | (simp only [fr_len]) | (simp only [ints_len]) | omega | (simp [*]; done))) | (refine And.intro ?_ ?_) | (intro h; first | (exact Bool.noConfusion h) | ((simp only [decide_eq_true_eq, decide_eq_false_iff_not, beq_iff_eq, bne_iff_ne, ne_eq, beq_eq_false_iff_ne, bne_eq_false_iff_eq, Bool.not_eq_true', Bool.not_eq_false', Bool.not_eq_true, Bool.not_eq_false, Int.not_le, Int.not_lt, Bool.and_eq_true, Bool.or_eq_true, Bool.or_eq_false_iff, Bool.and_eq_false_iff] at h); (try (first | (exact Bool.noConfusion h) | (exact (h trivial).elim)))) | skip) | ((refine (?_ : ACall _ _ _ _ _ _ _)); first | ((apply acall (impl_isTriple _ _ _ ?_ ?_ ?_ ?_ ?_ ?_)); (focus (repeat' (first | exact rfl | (refine And.intro ?_ ?_) | (simp only [ints_len]; done) | (simp; done) | omega)))) | ((apply acall (impl_TisNormal _ _ _ ?_ ?_ ?_ ?_ ?_ ?_)); (focus (repeat' (first | exact rfl | (refine And.intro ?_ ?_) | (simp only [ints_len]; done) | (simp; done) | omega))))) | ((with_reducible refine (?_ : chk _ _ = true)); kernel_rfl) | exact trivial)
    all_goals (first | assumption | (simp [leX, hn]; done) | (exfalso; apply hg; unfold inB; grind) | grind)


theorem claw_LegendreRoots (a b c : Int) (_la : -9223372036854775808 ≤ a) (_ua : a ≤ 9223372036854775807) (_lb : -9223372036854775808 ≤ b) (_ub : b ≤ 9223372036854775807) (_lc : -9223372036854775808 ≤ c) (_uc : c ≤ 9223372036854775807) : AFun Try.prog 13 [] [Tri a b c] (Bo true) [] [] := by
  refine afun_intro fn13 (by simp) rfl (by repeat' (first | exact trivial | (simp; done) | refine ⟨?_, ?_⟩)) ?_
  unfold ac13
  repeat' (first | ((with_reducible refine (?_ : (_ : Bool) = _)); (with_reducible rfl)) | ((with_reducible refine (?_ : (_ : Nat × Nat) = _)); (with_reducible rfl)) | (with_reducible refine leafRI ?_) | (with_reducible refine leafRB ?_) | (with_reducible refine leafI ?_) | (with_reducible refine leafB ?_) | ((with_reducible refine (?_ : (_ : Int) = _)); (with_reducible rfl)) | ((with_reducible refine (?_ : (_ : List (List Value)) = _)); (with_reducible rfl)) | ((with_reducible refine (?_ : (_ : Int) ≠ 0)); (first | assumption | omega | (simp only [ints_len] at *; omega) | (simp; omega))) | ((with_reducible refine (?_ : (_ : Int) ≤ _)); (first | assumption | omega | (simp only [ints_len] at *; omega) | (simp; omega))) | ((with_reducible refine (?_ : (_ : Int) < _)); (first | assumption | omega | (simp only [ints_len] at *; omega) | (simp; omega))) | ((with_reducible refine (?_ : (_ : Nat) ≤ _)); (first | omega | (simp only [List.length_cons, List.length_nil]; omega) | (simp; omega))) | ((with_reducible refine (?_ : (_ : Nat) = _)); (first | (with_reducible rfl) | (simp; done) | (simp only [fr_len]) | (simp only [ints_len]) | omega | (simp [*]; done))) | (refine And.intro ?_ ?_) | (intro h; first | (exact Bool.noConfusion h) | ((simp only [decide_eq_true_eq, decide_eq_false_iff_not, beq_iff_eq, bne_iff_ne, ne_eq, beq_eq_false_iff_ne, bne_eq_false_iff_eq, Bool.not_eq_true', Bool.not_eq_false', Bool.not_eq_true, Bool.not_eq_false, Int.not_le, Int.not_lt, Bool.and_eq_true, Bool.or_eq_true, Bool.or_eq_false_iff, Bool.and_eq_false_iff] at h); (try (first | (exact Bool.noConfusion h) | (exact (h trivial).elim)))) | skip) | ((refine (?_ : ACall _ _ _ _ _ _ _)); first | ((apply acall (laws_toTriple _ _ _)); (focus (repeat' (first | exact rfl | (refine And.intro ?_ ?_) | (simp only [ints_len]; done) | (simp; done) | omega)))) | ((apply acall (spec_LegendreRoots _ _ _ ?_ ?_ ?_ ?_ ?_ ?_)); (focus (repeat' (first | exact rfl | (refine And.intro ?_ ?_) | (simp only [ints_len]; done) | (simp; done) | omega)))) | ((apply acall (impl_LegendreRoots _ _ _ ?_ ?_ ?_ ?_ ?_ ?_)); (focus (repeat' (first | exact rfl | (refine And.intro ?_ ?_) | (simp only [ints_len]; done) | (simp; done) | omega))))) | ((with_reducible refine (?_ : chk _ _ = true)); kernel_rfl) | exact trivial)
  all_goals (first | assumption | simp_all)

theorem law_LegendreRoots (a b c : Int) (w : World) (_la : -9223372036854775808 ≤ a) (_ua : a ≤ 9223372036854775807) (_lb : -9223372036854775808 ≤ b) (_ub : b ≤ 9223372036854775807) (_lc : -9223372036854775808 ≤ c) (_uc : c ≤ 9223372036854775807) : Calls Try.prog 13 #[.agg #[.int .i64 a, .int .i64 b, .int .i64 c]] w fun e w' => e = .returned (.bool (true)) ∧ Below w.heap.size w w' := by
  exact law_of_afun (claw_LegendreRoots a b c _la _ua _lb _ub _lc _uc) rfl w

end Go.Proofs.Ytnpmkomnafdgnaa
