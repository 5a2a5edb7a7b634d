/- IsComposition: the nine coefficients. -/
import Derived.Test.YtfljlpijhagloaaIA
import Derived.Test.YtfljlpijhagloaaIB
namespace Go.Proofs.Ytfljlpijhagloaa
open Go.RowKit
set_option linter.unusedSimpArgs false
set_option linter.unusedVariables false
set_option maxRecDepth 100000
set_option maxHeartbeats 1000000

/-- One summand. -/
def coT (A B C : Int) (k : List Int) (i j : Nat) : Int := wrap64 (wrap64 (wrap64 (wrap64 (A * k.getD i 0) * k.getD j 0) + wrap64 (wrap64 (B * k.getD i 0) * k.getD (4 + j) 0)) + wrap64 (wrap64 (C * k.getD (4 + i) 0) * k.getD (4 + j) 0))
def coF (A B C : Int) (k : List Int) : Nat → List Int
  | 0 => [0, 0, 0, 0, 0, 0, 0, 0, 0]
  | n + 1 => (coF A B C k n).set (sqIx n) (wrap64 ((coF A B C k n).getD (sqIx n) 0 + coT A B C k (n / 4) (n % 4)))
theorem coF_len (A B C : Int) (k : List Int) : ∀ n, (coF A B C k n).length = 9
  | 0 => rfl
  | n + 1 => by simp [coF, coF_len A B C k n]
/-- The machine's index. -/
def coX (i j : Int) : Int := wrap64 (wrap64 (wrap64 (3 * wrap64 (wrap64 (i.tdiv 2) + wrap64 (j.tdiv 2))) + i.tmod 2) + j.tmod 2)
theorem coX_eq {i j : Int} (h1 : 0 ≤ i) (h2 : i < 4) (h3 : 0 ≤ j) (h4 : j < 4) : coX i j = (sqIx (4 * i.toNat + j.toNat) : Nat) ∧ sqIx (4 * i.toNat + j.toNat) < 9 := by
  have hi : i = 0 ∨ i = 1 ∨ i = 2 ∨ i = 3 := by omega
  have hj : j = 0 ∨ j = 1 ∨ j = 2 ∨ j = 3 := by omega
  rcases hi with rfl | rfl | rfl | rfl <;> rcases hj with rfl | rfl | rfl | rfl <;> decide +kernel
theorem getD_of {l : List Int} {i : Nat} {n : Int} (h : l[i]? = some n) : l.getD i 0 = n := by simp [List.getD_eq_getElem?_getD, h]
def coOk (a b c d e f A B C : Int) (k : List Int) : Bool := decide (∀ m : Nat, m < 9 → (coF A B C k 16).getD m 0 = wrap64 (([a, b, c] : List Int).getD (m / 3) 0 * ([d, e, f] : List Int).getD (m % 3) 0))
theorem co_step {p : Nat → Prop} {i : Int} (h0 : 0 ≤ i) (h : ∀ m : Nat, m < i.toNat → p m) (hp : p i.toNat) : ∀ m : Nat, m < (i + 1).toNat → p m := fun m hm => by
  by_cases e : m = i.toNat
  · exact e ▸ hp
  · exact h m (by omega)

theorem spec_coFits (a b c d e f A B C : Int) (k : List Int) (hk : k.length = 8) : AFun Try.prog 30 [] [Fo a b c, Fo d e f, Fo A B C, Vw k] (Bo (coOk a b c d e f A B C k)) [] [] := by
  refine afun_intro fn30 rfl rfl (by repeat' (first | exact trivial | (simp; done) | refine ⟨?_, ?_⟩)) ?_
  unfold ac30
  repeat' (first | ((with_reducible refine (?_ : (_ : Bool) = _)); (with_reducible rfl)) | ((with_reducible refine (?_ : (_ : Nat × Nat) = _)); (with_reducible rfl)) | (with_reducible refine leafRI ?_) | (with_reducible refine leafRB ?_) | (with_reducible refine leafI ?_) | (with_reducible refine leafB ?_) | ((with_reducible refine (?_ : (_ : Int) = _)); (with_reducible rfl)) | ((with_reducible refine (?_ : (_ : List (List Value)) = _)); (with_reducible rfl)) | ((with_reducible refine (?_ : (_ : Int) ≠ 0)); (first | assumption | omega | (simp; done) | (simp only [ints_len] at *; omega) | (simp; omega))) | ((with_reducible refine (?_ : (_ : Int) ≤ _)); (first | assumption | omega | (simp; done) | (simp only [ints_len] at *; omega) | (simp; omega))) | ((with_reducible refine (?_ : (_ : Int) < _)); (first | assumption | omega | (simp; done) | (simp only [ints_len] at *; omega) | (simp; omega))) | ((with_reducible refine (?_ : (_ : Nat) ≤ _)); (first | omega | (simp only [List.length_cons, List.length_nil]; omega) | (simp [ints]; done) | (simp; omega))) | ((with_reducible refine (?_ : (_ : Nat) < _)); (first | omega | (simp only [List.length_cons, List.length_nil]; omega) | (simp [ints]; done) | (simp; omega))) | ((with_reducible refine (?_ : (_ : Nat) = _)); (first | (with_reducible rfl) | (simp; done) | (simp only [fr_len]) | (simp only [ints_len]) | omega | (simp [*]; done))) | (refine And.intro ?_ ?_) | (intro h; first | (exact Bool.noConfusion h) | ((simp only [decide_eq_true_eq, decide_eq_false_iff_not, beq_iff_eq, bne_iff_ne, ne_eq, beq_eq_false_iff_ne, bne_eq_false_iff_eq, Bool.not_eq_true', Bool.not_eq_false', Bool.not_eq_true, Bool.not_eq_false, Int.not_le, Int.not_lt, Bool.and_eq_true, Bool.or_eq_true, Bool.or_eq_false_iff, Bool.and_eq_false_iff] at h); (try (first | (exact Bool.noConfusion h) | (exact (h trivial).elim)))) | skip) | ((with_reducible refine (?_ : chk _ _ = true)); kernel_rfl) | exact trivial | (refine Exists.intro _ (And.intro rfl ?_)))
  refine loop_rule (σ := List (List Value) × Int) (fun s => [(11, I s.2)]) (fun s => [((4, 0), .bx [cI a, cI b, cI c]), ((5, 0), .bx [cI d, cI e, cI f]), ((6, 0), .bx [cI A, cI B, cI C]), ((21, 0), .fl 3 1 (ints [a, b, c])), ((28, 0), .fl 3 1 (ints [d, e, f])), ((29, 0), .cs 33 [.slc (21, 0) 3, .slc (28, 0) 3]), ((30, 0), .fl 3 1 s.1)]) (fun s => 0 ≤ s.2 ∧ s.2 ≤ 4 ∧ s.1 = ints (coF A B C k (4 * s.2.toNat))) (fun s => (4 - s.2).toNat) ((ints [0, 0, 0, 0, 0, 0, 0, 0, 0], 0)) ?_ (by repeat' (first | exact trivial | exact rfl | (refine And.intro ?_ ?_))) (by repeat' (first | exact trivial | exact rfl | (refine And.intro ?_ ?_))) (fun s => ⟨rfl, rfl⟩) (fun s i h => by first | exact absurd h (Nat.not_lt_zero i) | (cases i with | zero => rfl | succ i => exact absurd (Nat.lt_of_succ_lt_succ h) (Nat.not_lt_zero i))) ?_
  · exact ⟨by decide, by decide, rfl⟩
  rintro ⟨R, i⟩ ⟨g0, g1, g2⟩
  dsimp only at g0 g1 g2 ⊢
  have w1 : wrap64 (i + 1) = i + 1 := wrap_small (by omega) (by omega)
  repeat' (first | ((with_reducible refine (?_ : (_ : Bool) = _)); (with_reducible rfl)) | ((with_reducible refine (?_ : (_ : Nat × Nat) = _)); (with_reducible rfl)) | (with_reducible refine leafRI ?_) | (with_reducible refine leafRB ?_) | (with_reducible refine leafI ?_) | (with_reducible refine leafB ?_) | ((with_reducible refine (?_ : (_ : Int) = _)); (with_reducible rfl)) | ((with_reducible refine (?_ : (_ : List (List Value)) = _)); (with_reducible rfl)) | ((with_reducible refine (?_ : (_ : Int) ≠ 0)); (first | assumption | omega | (simp; done) | (simp only [ints_len] at *; omega) | (simp; omega))) | ((with_reducible refine (?_ : (_ : Int) ≤ _)); (first | assumption | omega | (simp; done) | (simp only [ints_len] at *; omega) | (simp; omega))) | ((with_reducible refine (?_ : (_ : Int) < _)); (first | assumption | omega | (simp; done) | (simp only [ints_len] at *; omega) | (simp; omega))) | ((with_reducible refine (?_ : (_ : Nat) ≤ _)); (first | omega | (simp only [List.length_cons, List.length_nil]; omega) | (simp [ints]; done) | (simp; omega))) | ((with_reducible refine (?_ : (_ : Nat) < _)); (first | omega | (simp only [List.length_cons, List.length_nil]; omega) | (simp [ints]; done) | (simp; omega))) | ((with_reducible refine (?_ : (_ : Nat) = _)); (first | (with_reducible rfl) | (simp; done) | (simp only [fr_len]) | (simp only [ints_len]) | omega | (simp [*]; done))) | (refine And.intro ?_ ?_) | (intro h; first | (exact Bool.noConfusion h) | ((simp only [decide_eq_true_eq, decide_eq_false_iff_not, beq_iff_eq, bne_iff_ne, ne_eq, beq_eq_false_iff_ne, bne_eq_false_iff_eq, Bool.not_eq_true', Bool.not_eq_false', Bool.not_eq_true, Bool.not_eq_false, Int.not_le, Int.not_lt, Bool.and_eq_true, Bool.or_eq_true, Bool.or_eq_false_iff, Bool.and_eq_false_iff] at h); (try (first | (exact Bool.noConfusion h) | (exact (h trivial).elim)))) | skip) | ((with_reducible refine (?_ : chk _ _ = true)); kernel_rfl) | exact trivial | (refine Exists.intro _ (And.intro rfl ?_)))
  · skip
    refine loop_rule (σ := List (List Value) × Int) (fun s => [(12, I s.2)]) (fun s => [((4, 0), .bx [cI a, cI b, cI c]), ((5, 0), .bx [cI d, cI e, cI f]), ((6, 0), .bx [cI A, cI B, cI C]), ((21, 0), .fl 3 1 (ints [a, b, c])), ((28, 0), .fl 3 1 (ints [d, e, f])), ((29, 0), .cs 33 [.slc (21, 0) 3, .slc (28, 0) 3]), ((30, 0), .fl 3 1 s.1)]) (fun s => 0 ≤ s.2 ∧ s.2 ≤ 4 ∧ s.1 = ints (coF A B C k (4 * i.toNat + s.2.toNat))) (fun s => (4 - s.2).toNat) ((R, 0)) ?_ (by repeat' (first | exact trivial | exact rfl | (refine And.intro ?_ ?_))) (by repeat' (first | exact trivial | exact rfl | (refine And.intro ?_ ?_))) (fun s => ⟨rfl, rfl⟩) (fun s i h => by first | exact absurd h (Nat.not_lt_zero i) | (cases i with | zero => rfl | succ i => exact absurd (Nat.lt_of_succ_lt_succ h) (Nat.not_lt_zero i))) ?_
    · exact ⟨by dsimp only; omega, by dsimp only; omega, by simpa using g2⟩
    clear g2
    rintro ⟨R', j⟩ ⟨k0, k1, k2⟩
    dsimp only at k0 k1 k2 ⊢
    subst k2
    have w2 : wrap64 (j + 1) = j + 1 := wrap_small (by omega) (by omega)
    have w3 : wrap64 (4 + i) = 4 + i := wrap_small (by omega) (by omega)
    have w4 : wrap64 (4 + j) = 4 + j := wrap_small (by omega) (by omega)
    have hl := coF_len A B C k (4 * i.toNat + j.toNat)
    have hx := @coX_eq i j g0
    unfold coX at hx
    by_cases h4 : j < 4
    · obtain ⟨x1, x2⟩ := hx ‹i < 4› k0 h4
      clear hx
      repeat' (first | ((with_reducible refine (?_ : (_ : Bool) = _)); (with_reducible rfl)) | ((with_reducible refine (?_ : (_ : Nat × Nat) = _)); (with_reducible rfl)) | (with_reducible refine leafRI ?_) | (with_reducible refine leafRB ?_) | (with_reducible refine leafI ?_) | (with_reducible refine leafB ?_) | ((with_reducible refine (?_ : (_ : Int) = _)); (with_reducible rfl)) | ((with_reducible refine (?_ : (_ : List (List Value)) = _)); (with_reducible rfl)) | ((with_reducible refine (?_ : (_ : Int) ≠ 0)); (first | assumption | omega | (simp; done) | (simp only [ints_len] at *; omega) | (simp; omega))) | ((with_reducible refine (?_ : (_ : Int) ≤ _)); (first | assumption | omega | (simp; done) | (simp only [ints_len] at *; omega) | (simp; omega))) | ((with_reducible refine (?_ : (_ : Int) < _)); (first | assumption | omega | (simp; done) | (simp only [ints_len] at *; omega) | (simp; omega))) | ((with_reducible refine (?_ : (_ : Nat) ≤ _)); (first | omega | (simp only [List.length_cons, List.length_nil]; omega) | (simp [ints]; done) | (simp; omega))) | ((with_reducible refine (?_ : (_ : Nat) < _)); (first | omega | (simp only [List.length_cons, List.length_nil]; omega) | (simp [ints]; done) | (simp; omega))) | ((with_reducible refine (?_ : (_ : Nat) = _)); (first | (with_reducible rfl) | (simp; done) | (simp only [fr_len]) | (simp only [ints_len]) | omega | (simp [*]; done))) | ((with_reducible refine view_at ?_ ?_); (focus (constructor <;> (first | omega | (simp only [ints_len] at *; omega)))); intro n hn) | (refine And.intro ?_ ?_) | (intro h; first | (exact Bool.noConfusion h) | ((simp only [decide_eq_true_eq, decide_eq_false_iff_not, beq_iff_eq, bne_iff_ne, ne_eq, beq_eq_false_iff_ne, bne_eq_false_iff_eq, Bool.not_eq_true', Bool.not_eq_false', Bool.not_eq_true, Bool.not_eq_false, Int.not_le, Int.not_lt, Bool.and_eq_true, Bool.or_eq_true, Bool.or_eq_false_iff, Bool.and_eq_false_iff] at h); (try (first | (exact Bool.noConfusion h) | (exact (h trivial).elim)))) | skip) | ((with_reducible refine (?_ : chk _ _ = true)); kernel_rfl) | exact trivial | (refine Exists.intro _ (And.intro rfl ?_)))
      · rename_i hi n0 q0 n1 q1 n2 q2 n3 q3 n4 q4 n5 q5 n6 q6
        rw [w3] at q5
        rw [w4] at q4 q6
        rw [x1, Int.toNat_natCast] at q0 hn
        have e0 : n = n0 := by rw [q0] at hn; exact (Option.some.inj hn).symm
        have e1 : n3 = n1 := by rw [q1] at q3; exact (Option.some.inj q3).symm
        have e2 : n6 = n4 := by rw [q4] at q6; exact (Option.some.inj q6).symm
        subst e1 e2
        rw [show (4 + i).toNat = 4 + i.toNat by omega] at q5
        rw [show (4 + j).toNat = 4 + j.toNat by omega] at q4 q6
        refine ⟨(_, _), ?_, ?_, none, And.intro rfl (And.intro (by repeat' (first | exact trivial | exact rfl | (refine And.intro ?_ ?_))) (by repeat' (first | exact trivial | exact rfl | (refine And.intro ?_ ?_))))⟩
        · dsimp only
          rw [w2, x1, Int.toNat_natCast, show (j + 1).toNat = j.toNat + 1 by omega, ints_set]
          refine ⟨by omega, by omega, ?_⟩
          rw [show 4 * i.toNat + (j.toNat + 1) = (4 * i.toNat + j.toNat) + 1 by omega, coF, getD_of q0, show (4 * i.toNat + j.toNat) / 4 = i.toNat by omega, show (4 * i.toNat + j.toNat) % 4 = j.toNat by omega, coT, getD_of q1, getD_of q2, getD_of q4, getD_of q5]
        · dsimp only
          rw [w2]; omega
      · exact absurd ‹4 ≤ j› (by omega)
    · clear hx
      repeat' (first | ((with_reducible refine (?_ : (_ : Bool) = _)); (with_reducible rfl)) | ((with_reducible refine (?_ : (_ : Nat × Nat) = _)); (with_reducible rfl)) | (with_reducible refine leafRI ?_) | (with_reducible refine leafRB ?_) | (with_reducible refine leafI ?_) | (with_reducible refine leafB ?_) | ((with_reducible refine (?_ : (_ : Int) = _)); (with_reducible rfl)) | ((with_reducible refine (?_ : (_ : List (List Value)) = _)); (with_reducible rfl)) | ((with_reducible refine (?_ : (_ : Int) ≠ 0)); (first | assumption | omega | (simp; done) | (simp only [ints_len] at *; omega) | (simp; omega))) | ((with_reducible refine (?_ : (_ : Int) ≤ _)); (first | assumption | omega | (simp; done) | (simp only [ints_len] at *; omega) | (simp; omega))) | ((with_reducible refine (?_ : (_ : Int) < _)); (first | assumption | omega | (simp; done) | (simp only [ints_len] at *; omega) | (simp; omega))) | ((with_reducible refine (?_ : (_ : Nat) ≤ _)); (first | omega | (simp only [List.length_cons, List.length_nil]; omega) | (simp [ints]; done) | (simp; omega))) | ((with_reducible refine (?_ : (_ : Nat) < _)); (first | omega | (simp only [List.length_cons, List.length_nil]; omega) | (simp [ints]; done) | (simp; omega))) | ((with_reducible refine (?_ : (_ : Nat) = _)); (first | (with_reducible rfl) | (simp; done) | (simp only [fr_len]) | (simp only [ints_len]) | omega | (simp [*]; done))) | ((with_reducible refine view_at ?_ ?_); (focus (constructor <;> (first | omega | (simp only [ints_len] at *; omega)))); intro n hn) | (refine And.intro ?_ ?_) | (intro h; first | (exact Bool.noConfusion h) | ((simp only [decide_eq_true_eq, decide_eq_false_iff_not, beq_iff_eq, bne_iff_ne, ne_eq, beq_eq_false_iff_ne, bne_eq_false_iff_eq, Bool.not_eq_true', Bool.not_eq_false', Bool.not_eq_true, Bool.not_eq_false, Int.not_le, Int.not_lt, Bool.and_eq_true, Bool.or_eq_true, Bool.or_eq_false_iff, Bool.and_eq_false_iff] at h); (try (first | (exact Bool.noConfusion h) | (exact (h trivial).elim)))) | skip) | ((with_reducible refine (?_ : chk _ _ = true)); kernel_rfl) | exact trivial | (refine Exists.intro _ (And.intro rfl ?_)))
      · exact absurd ‹j < 4› (by omega)
      · have e : j = 4 := by omega
        subst e
        refine ⟨(_, _), ?_, ?_, none, And.intro rfl (And.intro (by repeat' (first | exact trivial | exact rfl | (refine And.intro ?_ ?_))) (by repeat' (first | exact trivial | exact rfl | (refine And.intro ?_ ?_))))⟩
        · dsimp only
          rw [w1, show (i + 1).toNat = i.toNat + 1 by omega]
          exact ⟨by omega, by omega, congrArg (fun x => ints (coF A B C k x)) (show 4 * i.toNat + Int.toNat 4 = 4 * (i.toNat + 1) by simp; omega)⟩
        · dsimp only
          rw [w1]; omega
  · have e : i = 4 := by omega
    subst e
    subst g2
    rw [show 4 * Int.toNat 4 = 16 from rfl]
    have hl := coF_len A B C k 16
    refine loop_rule (σ := Int) (fun s => [(14, I s)]) (fun s => [((4, 0), .bx [cI a, cI b, cI c]), ((5, 0), .bx [cI d, cI e, cI f]), ((6, 0), .bx [cI A, cI B, cI C]), ((21, 0), .fl 3 1 (ints [a, b, c])), ((28, 0), .fl 3 1 (ints [d, e, f])), ((29, 0), .cs 33 [.slc (21, 0) 3, .slc (28, 0) 3]), ((30, 0), .fl 3 1 (ints (coF A B C k 16)))]) (fun s => 0 ≤ s ∧ s ≤ 9 ∧ ∀ m : Nat, m < s.toNat → (coF A B C k 16).getD m 0 = wrap64 (([a, b, c] : List Int).getD (m / 3) 0 * ([d, e, f] : List Int).getD (m % 3) 0)) (fun s => (9 - s).toNat) (0) ?_ (by repeat' (first | exact trivial | exact rfl | (refine And.intro ?_ ?_))) (by repeat' (first | exact trivial | exact rfl | (refine And.intro ?_ ?_))) (fun s => ⟨rfl, rfl⟩) (fun s i h => by first | exact absurd h (Nat.not_lt_zero i) | (cases i with | zero => rfl | succ i => exact absurd (Nat.lt_of_succ_lt_succ h) (Nat.not_lt_zero i))) ?_
    · exact ⟨by omega, by omega, fun m hm => by omega⟩
    rintro m ⟨k0, k1, k2⟩
    have w2 : wrap64 (m + 1) = m + 1 := wrap_small (by omega) (by omega)
    have t1 : wrap64 (m.tdiv 3) = m / 3 := by rw [Int.tdiv_eq_ediv_of_nonneg k0]; exact wrap_small (by omega) (by omega)
    have t2 : m.tmod 3 = m % 3 := Int.tmod_eq_emod_of_nonneg k0
    have l3 : ∀ x y z : Int, ([x, y, z] : List Int).length = 3 := fun _ _ _ => rfl
    have l4 := l3 a b c
    have l5 := l3 d e f
    clear l3
    repeat' (first | ((with_reducible refine (?_ : (_ : Bool) = _)); (with_reducible rfl)) | ((with_reducible refine (?_ : (_ : Nat × Nat) = _)); (with_reducible rfl)) | (with_reducible refine leafRI ?_) | (with_reducible refine leafRB ?_) | (with_reducible refine leafI ?_) | (with_reducible refine leafB ?_) | ((with_reducible refine (?_ : (_ : Int) = _)); (with_reducible rfl)) | ((with_reducible refine (?_ : (_ : List (List Value)) = _)); (with_reducible rfl)) | ((with_reducible refine (?_ : (_ : Int) ≠ 0)); (first | assumption | omega | (simp; done) | (simp only [ints_len] at *; omega) | (simp; omega))) | ((with_reducible refine (?_ : (_ : Int) ≤ _)); (first | assumption | omega | (simp; done) | (simp only [ints_len] at *; omega) | (simp; omega))) | ((with_reducible refine (?_ : (_ : Int) < _)); (first | assumption | omega | (simp; done) | (simp only [ints_len] at *; omega) | (simp; omega))) | ((with_reducible refine (?_ : (_ : Nat) ≤ _)); (first | omega | (simp only [List.length_cons, List.length_nil]; omega) | (simp [ints]; done) | (simp; omega))) | ((with_reducible refine (?_ : (_ : Nat) < _)); (first | omega | (simp only [List.length_cons, List.length_nil]; omega) | (simp [ints]; done) | (simp; omega))) | ((with_reducible refine (?_ : (_ : Nat) = _)); (first | (with_reducible rfl) | (simp; done) | (simp only [fr_len]) | (simp only [ints_len]) | omega | (simp [*]; done))) | ((with_reducible refine view_at ?_ ?_); (focus (constructor <;> (first | omega | (simp only [ints_len] at *; omega)))); intro n hn) | (refine And.intro ?_ ?_) | (intro h; first | (exact Bool.noConfusion h) | ((simp only [decide_eq_true_eq, decide_eq_false_iff_not, beq_iff_eq, bne_iff_ne, ne_eq, beq_eq_false_iff_ne, bne_eq_false_iff_eq, Bool.not_eq_true', Bool.not_eq_false', Bool.not_eq_true, Bool.not_eq_false, Int.not_le, Int.not_lt, Bool.and_eq_true, Bool.or_eq_true, Bool.or_eq_false_iff, Bool.and_eq_false_iff] at h); (try (first | (exact Bool.noConfusion h) | (exact (h trivial).elim)))) | skip) | ((with_reducible refine (?_ : chk _ _ = true)); kernel_rfl) | exact trivial | (refine Exists.intro _ (And.intro rfl ?_)))
    · rename_i u n0 q0 n1 q1
      rw [t1] at q1
      rw [t2] at hn
      rw [show (m / 3).toNat = m.toNat / 3 by omega] at q1
      rw [show (m % 3).toNat = m.toNat % 3 by omega] at hn
      symm
      rw [coOk, decide_eq_false_iff_not]
      intro hall
      have := hall m.toNat (by omega)
      rw [getD_of q0, getD_of q1, getD_of hn] at this
      exact h this
    · rename_i u n0 q0 n1 q1
      rw [t1] at q1
      rw [t2] at hn
      rw [show (m / 3).toNat = m.toNat / 3 by omega] at q1
      rw [show (m % 3).toNat = m.toNat % 3 by omega] at hn
      refine ⟨_, ?_, ?_, none, And.intro rfl (And.intro (by repeat' (first | exact trivial | exact rfl | (refine And.intro ?_ ?_))) (by repeat' (first | exact trivial | exact rfl | (refine And.intro ?_ ?_))))⟩
      · rw [w2]
        refine ⟨by omega, by omega, co_step k0 k2 ?_⟩
        rw [getD_of q0, getD_of q1, getD_of hn]
        exact h
      · rw [w2]; omega
    · symm
      rw [coOk, decide_eq_true_eq]
      exact fun q hq => k2 q (by omega)
end Go.Proofs.Ytfljlpijhagloaa
