/- Slices of forms: compared, marked, looked at again; AllReducedForms. -/
import Derived.Test.YtodpegnkengeiaaF13
import Derived.Test.YtodpegnkengeiaaF5
import Derived.Test.YtodpegnkengeiaaF8
namespace Go.Proofs.Ytodpegnkengeiaa
set_option linter.unusedSimpArgs false
set_option linter.unusedVariables false
open Go.RowKit
set_option maxRecDepth 100000

abbrev Vf (l : List T3) : V := .c (.view 3 (fr l))
abbrev FF (l : List T3) : Blk := .fl 26 3 (fr l)
theorem set_at {R : List (List Value)} {i : Nat} {x : List Value} {k : List Value → Prop} (h : i < R.length) (hk : k x) : ∃ es, (R.set i x)[i]? = some es ∧ k es := ⟨x, by rw [List.getElem?_set_self h], hk⟩

/-- Marked Forms. -/
def iotaForm (k : Int) : Nat → List T3
  | 0 => []
  | n + 1 => iotaForm k n ++ [(k + 3 * n, k + 3 * n + 1, k + 3 * n + 2)]
@[simp] theorem iotaForm_len (k : Int) : ∀ n, (iotaForm k n).length = n
  | 0 => rfl
  | n + 1 => by simp [iotaForm, iotaForm_len k n]
theorem iotaForm_get (k : Int) : ∀ (n i : Nat), i < n → (iotaForm k n)[i]? = some (k + 3 * i, k + 3 * i + 1, k + 3 * i + 2)
  | 0, i, h => by omega
  | n + 1, i, h => by
    simp only [iotaForm]
    by_cases e : i = n
    · subst e; rw [List.getElem?_append_right (by simp)]; simp
    · rw [List.getElem?_append_left (by simp; omega)]; exact iotaForm_get k n i (by omega)
def markedForm (l : List T3) (k : Int) (n : Nat) : List T3 := iotaForm k n ++ l.drop n
theorem markedForm_len {l : List T3} {k : Int} {n : Nat} (h : n ≤ l.length) : (markedForm l k n).length = l.length := by simp [markedForm]; omega
theorem markedForm_step {l : List T3} {k : Int} {n : Nat} (h : n < l.length) : (markedForm l k n).set n (k + 3 * n, k + 3 * n + 1, k + 3 * n + 2) = markedForm l k (n + 1) := by
  rw [markedForm, markedForm, iotaForm, List.set_append_right _ _ (by simp), iotaForm_len, Nat.sub_self, List.drop_eq_getElem_cons h, List.set_cons_zero, List.append_assoc]
  rfl
theorem markedForm_all {l : List T3} {k : Int} : markedForm l k l.length = iotaForm k l.length := by simp [markedForm]
theorem fr_set {l : List T3} {i : Nat} {x : T3} : (fr l).set i [.int .i64 x.1, .int .i64 x.2.1, .int .i64 x.2.2] = fr (l.set i x) := by simp [fr, List.map_set]

theorem laws_markFormS (l : List T3) (k : Int) (hl : l.length ≤ 100000000) (h1 : 0 ≤ k) (h2 : k ≤ 1000000000000) : AFun Try.prog 25 [FF l] [.c (.slc (0, 0) l.length), I k] (I (k + 3 * l.length)) [FF (iotaForm k l.length)] [] := by
  refine afun_intro fn25 (by simp) rfl (by repeat' (first | exact trivial | (simp; done) | refine ⟨?_, ?_⟩)) ?_
  unfold ac25
  repeat' (first | ((with_reducible refine (?_ : (_ : Bool) = _)); (with_reducible rfl)) | ((with_reducible refine (?_ : (_ : Nat × Nat) = _)); (with_reducible rfl)) | (with_reducible refine leafRI ?_) | (with_reducible refine leafRB ?_) | (with_reducible refine leafI ?_) | (with_reducible refine leafB ?_) | ((with_reducible refine (?_ : (_ : Int) = _)); (with_reducible rfl)) | ((with_reducible refine (?_ : (_ : List (List Value)) = _)); (with_reducible rfl)) | ((with_reducible refine (?_ : (_ : Int) ≠ 0)); (first | assumption | omega | (simp only [ints_len] at *; omega) | (simp; omega))) | ((with_reducible refine (?_ : (_ : Int) ≤ _)); (first | assumption | omega | (simp only [ints_len] at *; omega) | (simp; omega))) | ((with_reducible refine (?_ : (_ : Int) < _)); (first | assumption | omega | (simp only [ints_len] at *; omega) | (simp; omega))) | ((with_reducible refine (?_ : (_ : Nat) ≤ _)); (first | omega | (simp only [List.length_cons, List.length_nil]; omega) | (simp; omega))) | ((with_reducible refine (?_ : (_ : Nat) = _)); (first | (with_reducible rfl) | (simp; done) | (simp only [fr_len]) | (simp only [ints_len]) | omega | (simp [*]; done))) | (refine And.intro ?_ ?_) | (intro h; first | (exact Bool.noConfusion h) | ((simp only [decide_eq_true_eq, decide_eq_false_iff_not, beq_iff_eq, bne_iff_ne, ne_eq, beq_eq_false_iff_ne, bne_eq_false_iff_eq, Bool.not_eq_true', Bool.not_eq_false', Bool.not_eq_true, Bool.not_eq_false, Int.not_le, Int.not_lt, Bool.and_eq_true, Bool.or_eq_true, Bool.or_eq_false_iff, Bool.and_eq_false_iff] at h); (try (first | (exact Bool.noConfusion h) | (exact (h trivial).elim)))) | skip) | ((with_reducible refine (?_ : chk _ _ = true)); kernel_rfl) | exact trivial)
  refine loop_rule (σ := Int × Int × List (List Value)) (fun s => [(1, I s.1), (5, I s.2.1)]) (fun s => [((0, 0), .fl 26 3 s.2.2)]) (fun s => 0 ≤ s.2.1 ∧ s.2.1 ≤ l.length ∧ s.1 = k + 3 * s.2.1 ∧ s.2.2 = fr (markedForm l k s.2.1.toNat)) (fun s => (l.length - s.2.1).toNat) ((k, 0, fr l)) ?_ (by repeat' (first | exact trivial | exact rfl | (refine And.intro ?_ ?_))) (by repeat' (first | exact trivial | exact rfl | (refine And.intro ?_ ?_))) (fun s => ⟨rfl, rfl⟩) (fun s i h => by first | exact absurd h (Nat.not_lt_zero i) | (cases i with | zero => rfl | succ i => exact absurd (Nat.lt_of_succ_lt_succ h) (Nat.not_lt_zero i))) ?_
  · exact ⟨by dsimp only; omega, by dsimp only; omega, by dsimp only; omega, rfl⟩
  · rintro ⟨k', i, R⟩ ⟨g1, g2, g3, g4⟩
    dsimp only at g1 g2 g3 g4 ⊢
    subst g4
    have hm := markedForm_len (l := l) (k := k) (n := i.toNat) (by omega)
    have hm2 := fr_len (markedForm l k i.toNat)
    have v0 : wrap64 (i + 1) = i + 1 := wrap_small (by omega) (by omega)
    have v1 : wrap64 (k' + 1) = k' + 1 := wrap_small (by omega) (by omega)
    have v2 : wrap64 (k' + 1 + 1) = k' + 2 := by rw [Int.add_assoc]; exact wrap_small (by omega) (by omega)
    have v3 : wrap64 (k' + 2 + 1) = k' + 3 := by rw [Int.add_assoc]; exact wrap_small (by omega) (by omega)
    repeat' (first | ((with_reducible refine (?_ : (_ : Bool) = _)); (with_reducible rfl)) | ((with_reducible refine (?_ : (_ : Nat × Nat) = _)); (with_reducible rfl)) | (with_reducible refine leafRI ?_) | (with_reducible refine leafRB ?_) | (with_reducible refine leafI ?_) | (with_reducible refine leafB ?_) | ((with_reducible refine (?_ : (_ : Int) = _)); (with_reducible rfl)) | ((with_reducible refine (?_ : (_ : List (List Value)) = _)); (with_reducible rfl)) | ((with_reducible refine (?_ : (_ : Int) ≠ 0)); (first | assumption | omega | (simp only [ints_len] at *; omega) | (simp; omega))) | ((with_reducible refine (?_ : (_ : Int) ≤ _)); (first | assumption | omega | (simp only [ints_len] at *; omega) | (simp; omega))) | ((with_reducible refine (?_ : (_ : Int) < _)); (first | assumption | omega | (simp only [ints_len] at *; omega) | (simp; omega))) | ((with_reducible refine (?_ : (_ : Nat) ≤ _)); (first | omega | (simp only [List.length_cons, List.length_nil]; omega) | (simp; omega))) | ((with_reducible refine (?_ : (_ : Nat) = _)); (first | (with_reducible rfl) | (simp; done) | (simp only [fr_len]) | (simp only [ints_len]) | omega | (simp [*]; done))) | ((with_reducible refine fr_at ?_ ?_); (focus (constructor <;> (first | omega | (simp only [fr_len] at *; omega)))); intro n hn) | ((with_reducible refine set_at ?_ ?_); (focus (first | omega | (simp; omega)))) | (refine And.intro ?_ ?_) | (intro h; first | (exact Bool.noConfusion h) | ((simp only [decide_eq_true_eq, decide_eq_false_iff_not, beq_iff_eq, bne_iff_ne, ne_eq, beq_eq_false_iff_ne, bne_eq_false_iff_eq, Bool.not_eq_true', Bool.not_eq_false', Bool.not_eq_true, Bool.not_eq_false, Int.not_le, Int.not_lt, Bool.and_eq_true, Bool.or_eq_true, Bool.or_eq_false_iff, Bool.and_eq_false_iff] at h); (try (first | (exact Bool.noConfusion h) | (exact (h trivial).elim)))) | skip) | ((with_reducible refine (?_ : chk _ _ = true)); kernel_rfl) | exact trivial)
    · refine ⟨(_, _, _), ?_, ?_, none, And.intro rfl (And.intro (by repeat' (first | exact trivial | exact rfl | (refine And.intro ?_ ?_))) (by repeat' (first | exact trivial | exact rfl | (refine And.intro ?_ ?_))))⟩
      · dsimp only
        rw [v0]
        simp only [List.set_set, v1, v2, v3]
        refine ⟨by omega, by omega, by omega, ?_⟩
        rw [show (i + 1).toNat = i.toNat + 1 by omega, ← markedForm_step (by omega), ← fr_set]
        congr 1
        simp only [List.cons.injEq, Value.int.injEq, and_true, true_and]
        omega
      · dsimp only; rw [v0]; omega
    · omega
    · rw [show i.toNat = l.length by omega, markedForm_all]

theorem laws_heldFormS (N : Nat) (k : Int) (hl : N ≤ 100000000) (h1 : 0 ≤ k) (h2 : k ≤ 1000000000000) : AFun Try.prog 26 [] [Vf (iotaForm k N), I k] (I (k + 3 * N)) [] [] := by
  refine afun_intro fn26 (by simp) rfl (by repeat' (first | exact trivial | (simp; done) | refine ⟨?_, ?_⟩)) ?_
  unfold ac26
  repeat' (first | ((with_reducible refine (?_ : (_ : Bool) = _)); (with_reducible rfl)) | ((with_reducible refine (?_ : (_ : Nat × Nat) = _)); (with_reducible rfl)) | (with_reducible refine leafRI ?_) | (with_reducible refine leafRB ?_) | (with_reducible refine leafI ?_) | (with_reducible refine leafB ?_) | ((with_reducible refine (?_ : (_ : Int) = _)); (with_reducible rfl)) | ((with_reducible refine (?_ : (_ : List (List Value)) = _)); (with_reducible rfl)) | ((with_reducible refine (?_ : (_ : Int) ≠ 0)); (first | assumption | omega | (simp only [ints_len] at *; omega) | (simp; omega))) | ((with_reducible refine (?_ : (_ : Int) ≤ _)); (first | assumption | omega | (simp only [ints_len] at *; omega) | (simp; omega))) | ((with_reducible refine (?_ : (_ : Int) < _)); (first | assumption | omega | (simp only [ints_len] at *; omega) | (simp; omega))) | ((with_reducible refine (?_ : (_ : Nat) ≤ _)); (first | omega | (simp only [List.length_cons, List.length_nil]; omega) | (simp; omega))) | ((with_reducible refine (?_ : (_ : Nat) = _)); (first | (with_reducible rfl) | (simp; done) | (simp only [fr_len]) | (simp only [ints_len]) | omega | (simp [*]; done))) | (refine And.intro ?_ ?_) | (intro h; first | (exact Bool.noConfusion h) | ((simp only [decide_eq_true_eq, decide_eq_false_iff_not, beq_iff_eq, bne_iff_ne, ne_eq, beq_eq_false_iff_ne, bne_eq_false_iff_eq, Bool.not_eq_true', Bool.not_eq_false', Bool.not_eq_true, Bool.not_eq_false, Int.not_le, Int.not_lt, Bool.and_eq_true, Bool.or_eq_true, Bool.or_eq_false_iff, Bool.and_eq_false_iff] at h); (try (first | (exact Bool.noConfusion h) | (exact (h trivial).elim)))) | skip) | ((with_reducible refine (?_ : chk _ _ = true)); kernel_rfl) | exact trivial)
  refine loop_rule (σ := Int × Int) (fun s => [(1, I s.1), (5, I s.2)]) (fun _ => []) (fun s => 0 ≤ s.2 ∧ s.2 ≤ N ∧ s.1 = k + 3 * s.2) (fun s => (N - s.2).toNat) ((k, 0)) ?_ (by repeat' (first | exact trivial | exact rfl | (refine And.intro ?_ ?_))) trivial (fun s => ⟨rfl, rfl⟩) (fun s i h => by first | exact absurd h (Nat.not_lt_zero i) | (cases i with | zero => rfl | succ i => exact absurd (Nat.lt_of_succ_lt_succ h) (Nat.not_lt_zero i))) ?_
  · exact ⟨by dsimp only; omega, by dsimp only; omega, by dsimp only; omega⟩
  · rintro ⟨k', i⟩ ⟨g1, g2, g3⟩
    dsimp only at g1 g2 g3 ⊢
    have hm := iotaForm_len k N
    have hm2 := fr_len (iotaForm k N)
    have hg : ∀ q, i < N → (iotaForm k N)[i.toNat]? = some q → q.1 = k' ∧ q.2.1 = k' + 1 ∧ q.2.2 = k' + 2 := fun q h hq => by
      rw [iotaForm_get _ _ _ (by omega)] at hq
      obtain rfl := Option.some.inj hq
      dsimp only; omega
    have v0 : wrap64 (i + 1) = i + 1 := wrap_small (by omega) (by omega)
    have v1 : wrap64 (k' + 1) = k' + 1 := wrap_small (by omega) (by omega)
    have v2 : wrap64 (k' + 1 + 1) = k' + 2 := by rw [Int.add_assoc]; exact wrap_small (by omega) (by omega)
    have v3 : wrap64 (k' + 2 + 1) = k' + 3 := by rw [Int.add_assoc]; exact wrap_small (by omega) (by omega)
    repeat' (first | ((with_reducible refine (?_ : (_ : Bool) = _)); (with_reducible rfl)) | ((with_reducible refine (?_ : (_ : Nat × Nat) = _)); (with_reducible rfl)) | (with_reducible refine leafRI ?_) | (with_reducible refine leafRB ?_) | (with_reducible refine leafI ?_) | (with_reducible refine leafB ?_) | ((with_reducible refine (?_ : (_ : Int) = _)); (with_reducible rfl)) | ((with_reducible refine (?_ : (_ : List (List Value)) = _)); (with_reducible rfl)) | ((with_reducible refine (?_ : (_ : Int) ≠ 0)); (first | assumption | omega | (simp only [ints_len] at *; omega) | (simp; omega))) | ((with_reducible refine (?_ : (_ : Int) ≤ _)); (first | assumption | omega | (simp only [ints_len] at *; omega) | (simp; omega))) | ((with_reducible refine (?_ : (_ : Int) < _)); (first | assumption | omega | (simp only [ints_len] at *; omega) | (simp; omega))) | ((with_reducible refine (?_ : (_ : Nat) ≤ _)); (first | omega | (simp only [List.length_cons, List.length_nil]; omega) | (simp; omega))) | ((with_reducible refine (?_ : (_ : Nat) = _)); (first | (with_reducible rfl) | (simp; done) | (simp only [fr_len]) | (simp only [ints_len]) | omega | (simp [*]; done))) | ((with_reducible refine fr_at ?_ ?_); (focus (constructor <;> (first | omega | (simp only [fr_len] at *; omega)))); intro n hn) | (refine And.intro ?_ ?_) | (intro h; first | (exact Bool.noConfusion h) | ((simp only [decide_eq_true_eq, decide_eq_false_iff_not, beq_iff_eq, bne_iff_ne, ne_eq, beq_eq_false_iff_ne, bne_eq_false_iff_eq, Bool.not_eq_true', Bool.not_eq_false', Bool.not_eq_true, Bool.not_eq_false, Int.not_le, Int.not_lt, Bool.and_eq_true, Bool.or_eq_true, Bool.or_eq_false_iff, Bool.and_eq_false_iff] at h); (try (first | (exact Bool.noConfusion h) | (exact (h trivial).elim)))) | skip) | ((with_reducible refine (?_ : chk _ _ = true)); kernel_rfl) | exact trivial)
    any_goals ((with_reducible refine (?_ : (_ : Int) = _)); (first | omega | (exfalso; have hx := hg _ (by omega) hn; (try simp only [v1, v2, v3] at h); omega)))
    refine ⟨(_, _), ?_, ?_, none, And.intro rfl (And.intro (by repeat' (first | exact trivial | exact rfl | (refine And.intro ?_ ?_))) (by repeat' (first | exact trivial | exact rfl | (refine And.intro ?_ ?_))))⟩
    · dsimp only
      simp only [v0, v1, v2, v3]
      exact ⟨by omega, by omega, by omega⟩
    · dsimp only; rw [v0]; omega

theorem laws_eqFormS (a b : List T3) (ha : a.length ≤ 1000000000) (hb : b.length ≤ 1000000000) : AFun Try.prog 24 [] [Vf a, Vf b] (Bo (decide (a = b))) [] [] := by
  have e1 := fr_len a
  have e2 := fr_len b
  refine afun_intro fn24 (by simp) rfl (by repeat' (first | exact trivial | (simp; done) | refine ⟨?_, ?_⟩)) ?_
  unfold ac24
  repeat' (first | ((with_reducible refine (?_ : (_ : Bool) = _)); (with_reducible rfl)) | ((with_reducible refine (?_ : (_ : Nat × Nat) = _)); (with_reducible rfl)) | (with_reducible refine leafRI ?_) | (with_reducible refine leafRB ?_) | (with_reducible refine leafI ?_) | (with_reducible refine leafB ?_) | ((with_reducible refine (?_ : (_ : Int) = _)); (with_reducible rfl)) | ((with_reducible refine (?_ : (_ : List (List Value)) = _)); (with_reducible rfl)) | ((with_reducible refine (?_ : (_ : Int) ≠ 0)); (first | assumption | omega | (simp only [ints_len] at *; omega) | (simp; omega))) | ((with_reducible refine (?_ : (_ : Int) ≤ _)); (first | assumption | omega | (simp only [ints_len] at *; omega) | (simp; omega))) | ((with_reducible refine (?_ : (_ : Int) < _)); (first | assumption | omega | (simp only [ints_len] at *; omega) | (simp; omega))) | ((with_reducible refine (?_ : (_ : Nat) ≤ _)); (first | omega | (simp only [List.length_cons, List.length_nil]; omega) | (simp; omega))) | ((with_reducible refine (?_ : (_ : Nat) = _)); (first | (with_reducible rfl) | (simp; done) | (simp only [fr_len]) | (simp only [ints_len]) | omega | (simp [*]; done))) | (refine And.intro ?_ ?_) | (intro h; first | (exact Bool.noConfusion h) | ((simp only [decide_eq_true_eq, decide_eq_false_iff_not, beq_iff_eq, bne_iff_ne, ne_eq, beq_eq_false_iff_ne, bne_eq_false_iff_eq, Bool.not_eq_true', Bool.not_eq_false', Bool.not_eq_true, Bool.not_eq_false, Int.not_le, Int.not_lt, Bool.and_eq_true, Bool.or_eq_true, Bool.or_eq_false_iff, Bool.and_eq_false_iff] at h); (try (first | (exact Bool.noConfusion h) | (exact (h trivial).elim)))) | skip) | ((with_reducible refine (?_ : chk _ _ = true)); kernel_rfl) | exact trivial)
  · symm
    rw [decide_eq_false_iff_not]
    rintro rfl
    omega
  refine loop_rule (σ := Int) (fun s => [(5, I s)]) (fun _ => []) (fun s => 0 ≤ s ∧ s ≤ a.length ∧ ∀ j : Nat, j < s.toNat → a[j]? = b[j]?) (fun s => (a.length - s).toNat) (0) ?_ (by repeat' (first | exact trivial | exact rfl | (refine And.intro ?_ ?_))) trivial (fun s => ⟨rfl, rfl⟩) (fun s i h => by first | exact absurd h (Nat.not_lt_zero i) | (cases i with | zero => rfl | succ i => exact absurd (Nat.lt_of_succ_lt_succ h) (Nat.not_lt_zero i))) ?_
  · exact ⟨by omega, by omega, fun j h => by omega⟩
  · rintro i ⟨g1, g2, g3⟩
    repeat' (first | ((with_reducible refine (?_ : (_ : Bool) = _)); (with_reducible rfl)) | ((with_reducible refine (?_ : (_ : Nat × Nat) = _)); (with_reducible rfl)) | (with_reducible refine leafRI ?_) | (with_reducible refine leafRB ?_) | (with_reducible refine leafI ?_) | (with_reducible refine leafB ?_) | ((with_reducible refine (?_ : (_ : Int) = _)); (with_reducible rfl)) | ((with_reducible refine (?_ : (_ : List (List Value)) = _)); (with_reducible rfl)) | ((with_reducible refine (?_ : (_ : Int) ≠ 0)); (first | assumption | omega | (simp only [ints_len] at *; omega) | (simp; omega))) | ((with_reducible refine (?_ : (_ : Int) ≤ _)); (first | assumption | omega | (simp only [ints_len] at *; omega) | (simp; omega))) | ((with_reducible refine (?_ : (_ : Int) < _)); (first | assumption | omega | (simp only [ints_len] at *; omega) | (simp; omega))) | ((with_reducible refine (?_ : (_ : Nat) ≤ _)); (first | omega | (simp only [List.length_cons, List.length_nil]; omega) | (simp; omega))) | ((with_reducible refine (?_ : (_ : Nat) = _)); (first | (with_reducible rfl) | (simp; done) | (simp only [fr_len]) | (simp only [ints_len]) | omega | (simp [*]; done))) | ((with_reducible refine fr_at ?_ ?_); (focus (constructor <;> (first | omega | (simp only [fr_len] at *; omega)))); intro n hn) | (refine And.intro ?_ ?_) | (intro h; first | (exact Bool.noConfusion h) | ((simp only [decide_eq_true_eq, decide_eq_false_iff_not, beq_iff_eq, bne_iff_ne, ne_eq, beq_eq_false_iff_ne, bne_eq_false_iff_eq, Bool.not_eq_true', Bool.not_eq_false', Bool.not_eq_true, Bool.not_eq_false, Int.not_le, Int.not_lt, Bool.and_eq_true, Bool.or_eq_true, Bool.or_eq_false_iff, Bool.and_eq_false_iff] at h); (try (first | (exact Bool.noConfusion h) | (exact (h trivial).elim)))) | skip) | ((refine (?_ : ACall _ _ _ _ _ _ _)); first | ((apply acall (laws_eqForm _ _ _ _ _ _)); (focus (repeat' (first | exact rfl | (refine And.intro ?_ ?_) | (simp only [ints_len]; done) | (simp; done) | omega))))) | ((with_reducible refine (?_ : chk _ _ = true)); kernel_rfl) | exact trivial)
    · symm
      rw [decide_eq_false_iff_not]
      rintro rfl
      simp_all
    · refine ⟨(wrap64 (i + 1)), ?_, ?_, none, And.intro rfl (And.intro (by repeat' (first | exact trivial | exact rfl | (refine And.intro ?_ ?_))) (by repeat' (first | exact trivial | exact rfl | (refine And.intro ?_ ?_))))⟩
      · rw [wrap_small (n := i + 1) (by omega) (by omega)]
        refine ⟨by omega, by omega, fun j hj => ?_⟩
        by_cases e : j = i.toNat
        · subst e; simp_all [Prod.ext_iff]
        · exact g3 j (by omega)
      · rw [wrap_small (n := i + 1) (by omega) (by omega)]
        omega
    · symm
      rw [decide_eq_true_eq]
      apply List.ext_getElem?
      intro j
      by_cases e : j < a.length
      · exact g3 j (by omega)
      · rw [List.getElem?_eq_none (by omega), List.getElem?_eq_none (by omega)]

end Go.Proofs.Ytodpegnkengeiaa
