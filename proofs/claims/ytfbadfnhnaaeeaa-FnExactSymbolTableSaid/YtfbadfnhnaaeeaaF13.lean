/- Slices of integers: compared, marked, looked at again. -/
import Derived.Test.YtfbadfnhnaaeeaaF2
namespace Go.Proofs.Ytfbadfnhnaaeeaa
set_option linter.unusedSimpArgs false
set_option linter.unusedVariables false
open Go.RowKit
set_option maxRecDepth 100000

abbrev FI (l : List Int) : Blk := .fl 3 1 (ints l)
abbrev PS (n : Nat) (b : Bool) : V := .tup [(false, [.slc (0, 0) n]), (false, [cB b])]
/-- k, k + 1, .. -/
def iota (k : Int) : Nat → List Int
  | 0 => []
  | n + 1 => iota k n ++ [k + n]
@[simp] theorem iota_len (k : Int) : ∀ n, (iota k n).length = n
  | 0 => rfl
  | n + 1 => by simp [iota, iota_len k n]
theorem iota_get (k : Int) : ∀ (n i : Nat), i < n → (iota k n)[i]? = some (k + i)
  | 0, i, h => by omega
  | n + 1, i, h => by
    simp only [iota]
    by_cases e : i = n
    · subst e; rw [List.getElem?_append_right (by simp)]; simp
    · rw [List.getElem?_append_left (by simp; omega)]; exact iota_get k n i (by omega)
/-- A list of which the first n integers are marked. -/
def marked (l : List Int) (k : Int) (n : Nat) : List Int := iota k n ++ l.drop n
theorem marked_len {l : List Int} {k : Int} {n : Nat} (h : n ≤ l.length) : (marked l k n).length = l.length := by simp [marked]; omega
theorem marked_step {l : List Int} {k : Int} {n : Nat} (h : n < l.length) : (marked l k n).set n (k + n) = marked l k (n + 1) := by
  rw [marked, marked, iota, List.set_append_right _ _ (by simp), iota_len, Nat.sub_self, List.drop_eq_getElem_cons h, List.set_cons_zero, List.append_assoc]
  rfl
theorem marked_all {l : List Int} {k : Int} : marked l k l.length = iota k l.length := by simp [marked]
theorem ints_set {l : List Int} {i : Nat} {n : Int} : (ints l).set i [.int .i64 n] = ints (l.set i n) := by simp [ints, List.map_set]
theorem ints_app (l l' : List Int) : ints (l ++ l') = ints l ++ ints l' := by simp [ints]

theorem laws_markIntS (l : List Int) (k : Int) (hl : l.length ≤ 1000000000) (h1 : 0 ≤ k) (h2 : k ≤ 1000000000000) : AFun Try.prog 16 [FI l] [.c (.slc (0, 0) l.length), I k] (I (k + l.length)) [FI (iota k l.length)] [] := by
  refine afun_intro fn16 rfl rfl (by repeat' (first | exact trivial | (simp; done) | (simp [*]; done) | refine ⟨?_, ?_⟩)) ?_
  unfold ac16
  repeat' (first | ((with_reducible refine (?_ : (_ : Bool) = _)); (with_reducible rfl)) | ((with_reducible refine (?_ : (_ : Nat × Nat) = _)); (with_reducible rfl)) | (with_reducible refine leafRI ?_) | (with_reducible refine leafRB ?_) | (with_reducible refine leafI ?_) | (with_reducible refine leafB ?_) | ((with_reducible refine (?_ : (_ : Int) = _)); (with_reducible rfl)) | ((with_reducible refine (?_ : (_ : List (List Value)) = _)); (with_reducible rfl)) | ((with_reducible refine (?_ : (_ : Int) ≠ 0)); (first | assumption | omega | (simp; done) | (simp only [ints_len] at *; omega) | (simp; omega))) | ((with_reducible refine (?_ : (_ : Int) ≤ _)); (first | assumption | omega | (simp; done) | (simp only [ints_len] at *; omega) | (simp; omega))) | ((with_reducible refine (?_ : (_ : Int) < _)); (first | assumption | omega | (simp; done) | (simp only [ints_len] at *; omega) | (simp; omega))) | ((with_reducible refine (?_ : (_ : Nat) ≤ _)); (first | omega | (simp only [List.length_cons, List.length_nil]; omega) | (simp [ints]; done) | (simp; omega))) | ((with_reducible refine (?_ : (_ : Nat) < _)); (first | omega | (simp only [List.length_cons, List.length_nil]; omega) | (simp [ints]; done) | (simp; omega))) | ((with_reducible refine (?_ : (_ : Nat) = _)); (first | (with_reducible rfl) | (simp; done) | (simp only [fr_len]) | (simp only [ints_len]) | omega | (simp [*]; done))) | (refine And.intro ?_ ?_) | (intro h; first | (exact Bool.noConfusion h) | ((simp only [decide_eq_true_eq, decide_eq_false_iff_not, beq_iff_eq, bne_iff_ne, ne_eq, beq_eq_false_iff_ne, bne_eq_false_iff_eq, Bool.not_eq_true', Bool.not_eq_false', Bool.not_eq_true, Bool.not_eq_false, Int.not_le, Int.not_lt, Bool.and_eq_true, Bool.or_eq_true, Bool.or_eq_false_iff, Bool.and_eq_false_iff] at h); (try (first | (exact Bool.noConfusion h) | (exact (h trivial).elim)))) | skip) | ((with_reducible refine (?_ : chk _ _ = true)); kernel_rfl) | ((with_reducible refine (?_ : (_ : IntKind) = _)); (with_reducible rfl)) | ((with_reducible refine (?_ : eqC (C.pvw _ _ _) (C.pvw _ _ _))); exact rfl) | ((with_reducible refine (?_ : eqC (C.pv (Value.int IntKind.u64 _)) _)); exact rfl) | ((with_reducible refine (?_ : eqC (C.pv (Value.string _)) _)); exact rfl) | exact trivial)
  refine loop_rule (σ := Int × Int × List (List Value)) (fun s => [(1, I s.1), (5, I s.2.1)]) (fun s => [((0, 0), .fl 3 1 s.2.2)]) (fun s => 0 ≤ s.2.1 ∧ s.2.1 ≤ l.length ∧ s.1 = k + s.2.1 ∧ s.2.2 = ints (marked l k s.2.1.toNat)) (fun s => (l.length - s.2.1).toNat) ((k, 0, ints l)) ?_ (by repeat' (first | exact trivial | exact rfl | (refine And.intro ?_ ?_))) (by repeat' (first | exact trivial | exact rfl | (refine And.intro ?_ ?_))) (fun s => ⟨rfl, rfl⟩) (fun s i h => by first | exact absurd h (Nat.not_lt_zero i) | (cases i with | zero => rfl | succ i => exact absurd (Nat.lt_of_succ_lt_succ h) (Nat.not_lt_zero i)) | (rcases i with _ | _ | _ | _ | _ | _ | _ | _ | _ | i <;> first | rfl | (exfalso; simp at h; done) | (exfalso; simp only [List.length_cons, List.length_nil] at h; omega))) ?_
  · exact ⟨by dsimp only; omega, by dsimp only; omega, by dsimp only; omega, rfl⟩
  · rintro ⟨k', i, R⟩ ⟨g1, g2, g3, g4⟩
    dsimp only at g1 g2 g3 g4
    subst g4
    have hm := marked_len (l := l) (k := k) (n := i.toNat) (by omega)
    repeat' (first | ((with_reducible refine (?_ : (_ : Bool) = _)); (with_reducible rfl)) | ((with_reducible refine (?_ : (_ : Nat × Nat) = _)); (with_reducible rfl)) | (with_reducible refine leafRI ?_) | (with_reducible refine leafRB ?_) | (with_reducible refine leafI ?_) | (with_reducible refine leafB ?_) | ((with_reducible refine (?_ : (_ : Int) = _)); (with_reducible rfl)) | ((with_reducible refine (?_ : (_ : List (List Value)) = _)); (with_reducible rfl)) | ((with_reducible refine (?_ : (_ : Int) ≠ 0)); (first | assumption | omega | (simp; done) | (simp only [ints_len] at *; omega) | (simp; omega))) | ((with_reducible refine (?_ : (_ : Int) ≤ _)); (first | assumption | omega | (simp; done) | (simp only [ints_len] at *; omega) | (simp; omega))) | ((with_reducible refine (?_ : (_ : Int) < _)); (first | assumption | omega | (simp; done) | (simp only [ints_len] at *; omega) | (simp; omega))) | ((with_reducible refine (?_ : (_ : Nat) ≤ _)); (first | omega | (simp only [List.length_cons, List.length_nil]; omega) | (simp [ints]; done) | (simp; omega))) | ((with_reducible refine (?_ : (_ : Nat) < _)); (first | omega | (simp only [List.length_cons, List.length_nil]; omega) | (simp [ints]; done) | (simp; omega))) | ((with_reducible refine (?_ : (_ : Nat) = _)); (first | (with_reducible rfl) | (simp; done) | (simp only [fr_len]) | (simp only [ints_len]) | omega | (simp [*]; done))) | ((with_reducible refine view_at ?_ ?_); (focus (constructor <;> (first | omega | (simp only [ints_len] at *; omega)))); intro n hn) | (refine And.intro ?_ ?_) | (intro h; first | (exact Bool.noConfusion h) | ((simp only [decide_eq_true_eq, decide_eq_false_iff_not, beq_iff_eq, bne_iff_ne, ne_eq, beq_eq_false_iff_ne, bne_eq_false_iff_eq, Bool.not_eq_true', Bool.not_eq_false', Bool.not_eq_true, Bool.not_eq_false, Int.not_le, Int.not_lt, Bool.and_eq_true, Bool.or_eq_true, Bool.or_eq_false_iff, Bool.and_eq_false_iff] at h); (try (first | (exact Bool.noConfusion h) | (exact (h trivial).elim)))) | skip) | ((with_reducible refine (?_ : chk _ _ = true)); kernel_rfl) | ((with_reducible refine (?_ : (_ : IntKind) = _)); (with_reducible rfl)) | ((with_reducible refine (?_ : eqC (C.pvw _ _ _) (C.pvw _ _ _))); exact rfl) | ((with_reducible refine (?_ : eqC (C.pv (Value.int IntKind.u64 _)) _)); exact rfl) | ((with_reducible refine (?_ : eqC (C.pv (Value.string _)) _)); exact rfl) | exact trivial)
    · refine ⟨(wrap64 (k' + 1), wrap64 (i + 1), (ints (marked l k i.toNat)).set i.toNat [.int .i64 k']), ?_, ?_, none, And.intro rfl (And.intro (by repeat' (first | exact trivial | exact rfl | (refine And.intro ?_ ?_))) (by repeat' (first | exact trivial | exact rfl | (refine And.intro ?_ ?_))))⟩
      · dsimp only
        rw [wrap_small (n := i + 1) (by omega) (by omega), wrap_small (n := k' + 1) (by omega) (by omega), ints_set, show (i + 1).toNat = i.toNat + 1 by omega, show k' = k + (i.toNat : Int) by omega, marked_step (by omega)]
        exact ⟨by omega, by omega, by omega, rfl⟩
      · dsimp only
        rw [wrap_small (n := i + 1) (by omega) (by omega)]
        omega
    · dsimp only; omega
    · dsimp only; rw [show i.toNat = l.length by omega, marked_all]

theorem laws_heldIntS (N : Nat) (k : Int) (hl : N ≤ 1000000000) (h1 : 0 ≤ k) (h2 : k ≤ 1000000000000) : AFun Try.prog 17 [] [Vw (iota k N), I k] (I (k + N)) [] [] := by
  refine afun_intro fn17 rfl rfl (by repeat' (first | exact trivial | (simp; done) | (simp [*]; done) | refine ⟨?_, ?_⟩)) ?_
  unfold ac17
  repeat' (first | ((with_reducible refine (?_ : (_ : Bool) = _)); (with_reducible rfl)) | ((with_reducible refine (?_ : (_ : Nat × Nat) = _)); (with_reducible rfl)) | (with_reducible refine leafRI ?_) | (with_reducible refine leafRB ?_) | (with_reducible refine leafI ?_) | (with_reducible refine leafB ?_) | ((with_reducible refine (?_ : (_ : Int) = _)); (with_reducible rfl)) | ((with_reducible refine (?_ : (_ : List (List Value)) = _)); (with_reducible rfl)) | ((with_reducible refine (?_ : (_ : Int) ≠ 0)); (first | assumption | omega | (simp; done) | (simp only [ints_len] at *; omega) | (simp; omega))) | ((with_reducible refine (?_ : (_ : Int) ≤ _)); (first | assumption | omega | (simp; done) | (simp only [ints_len] at *; omega) | (simp; omega))) | ((with_reducible refine (?_ : (_ : Int) < _)); (first | assumption | omega | (simp; done) | (simp only [ints_len] at *; omega) | (simp; omega))) | ((with_reducible refine (?_ : (_ : Nat) ≤ _)); (first | omega | (simp only [List.length_cons, List.length_nil]; omega) | (simp [ints]; done) | (simp; omega))) | ((with_reducible refine (?_ : (_ : Nat) < _)); (first | omega | (simp only [List.length_cons, List.length_nil]; omega) | (simp [ints]; done) | (simp; omega))) | ((with_reducible refine (?_ : (_ : Nat) = _)); (first | (with_reducible rfl) | (simp; done) | (simp only [fr_len]) | (simp only [ints_len]) | omega | (simp [*]; done))) | (refine And.intro ?_ ?_) | (intro h; first | (exact Bool.noConfusion h) | ((simp only [decide_eq_true_eq, decide_eq_false_iff_not, beq_iff_eq, bne_iff_ne, ne_eq, beq_eq_false_iff_ne, bne_eq_false_iff_eq, Bool.not_eq_true', Bool.not_eq_false', Bool.not_eq_true, Bool.not_eq_false, Int.not_le, Int.not_lt, Bool.and_eq_true, Bool.or_eq_true, Bool.or_eq_false_iff, Bool.and_eq_false_iff] at h); (try (first | (exact Bool.noConfusion h) | (exact (h trivial).elim)))) | skip) | ((with_reducible refine (?_ : chk _ _ = true)); kernel_rfl) | ((with_reducible refine (?_ : (_ : IntKind) = _)); (with_reducible rfl)) | ((with_reducible refine (?_ : eqC (C.pvw _ _ _) (C.pvw _ _ _))); exact rfl) | ((with_reducible refine (?_ : eqC (C.pv (Value.int IntKind.u64 _)) _)); exact rfl) | ((with_reducible refine (?_ : eqC (C.pv (Value.string _)) _)); exact rfl) | exact trivial)
  refine loop_rule (σ := Int × Int) (fun s => [(1, I s.1), (5, I s.2)]) (fun _ => []) (fun s => 0 ≤ s.2 ∧ s.2 ≤ N ∧ s.1 = k + s.2) (fun s => (N - s.2).toNat) ((k, 0)) ?_ (by repeat' (first | exact trivial | exact rfl | (refine And.intro ?_ ?_))) trivial (fun s => ⟨rfl, rfl⟩) (fun s i h => by first | exact absurd h (Nat.not_lt_zero i) | (cases i with | zero => rfl | succ i => exact absurd (Nat.lt_of_succ_lt_succ h) (Nat.not_lt_zero i)) | (rcases i with _ | _ | _ | _ | _ | _ | _ | _ | _ | i <;> first | rfl | (exfalso; simp at h; done) | (exfalso; simp only [List.length_cons, List.length_nil] at h; omega))) ?_
  · exact ⟨by dsimp only; omega, by dsimp only; omega, by dsimp only; omega⟩
  · rintro ⟨k', i⟩ ⟨g1, g2, g3⟩
    dsimp only at g1 g2 g3
    have hm := iota_len k N
    repeat' (first | ((with_reducible refine (?_ : (_ : Bool) = _)); (with_reducible rfl)) | ((with_reducible refine (?_ : (_ : Nat × Nat) = _)); (with_reducible rfl)) | (with_reducible refine leafRI ?_) | (with_reducible refine leafRB ?_) | (with_reducible refine leafI ?_) | (with_reducible refine leafB ?_) | ((with_reducible refine (?_ : (_ : Int) = _)); (with_reducible rfl)) | ((with_reducible refine (?_ : (_ : List (List Value)) = _)); (with_reducible rfl)) | ((with_reducible refine (?_ : (_ : Int) ≠ 0)); (first | assumption | omega | (simp; done) | (simp only [ints_len] at *; omega) | (simp; omega))) | ((with_reducible refine (?_ : (_ : Int) ≤ _)); (first | assumption | omega | (simp; done) | (simp only [ints_len] at *; omega) | (simp; omega))) | ((with_reducible refine (?_ : (_ : Int) < _)); (first | assumption | omega | (simp; done) | (simp only [ints_len] at *; omega) | (simp; omega))) | ((with_reducible refine (?_ : (_ : Nat) ≤ _)); (first | omega | (simp only [List.length_cons, List.length_nil]; omega) | (simp [ints]; done) | (simp; omega))) | ((with_reducible refine (?_ : (_ : Nat) < _)); (first | omega | (simp only [List.length_cons, List.length_nil]; omega) | (simp [ints]; done) | (simp; omega))) | ((with_reducible refine (?_ : (_ : Nat) = _)); (first | (with_reducible rfl) | (simp; done) | (simp only [fr_len]) | (simp only [ints_len]) | omega | (simp [*]; done))) | ((with_reducible refine view_at ?_ ?_); (focus (constructor <;> (first | omega | (simp only [ints_len] at *; omega)))); intro n hn) | (refine And.intro ?_ ?_) | (intro h; first | (exact Bool.noConfusion h) | ((simp only [decide_eq_true_eq, decide_eq_false_iff_not, beq_iff_eq, bne_iff_ne, ne_eq, beq_eq_false_iff_ne, bne_eq_false_iff_eq, Bool.not_eq_true', Bool.not_eq_false', Bool.not_eq_true, Bool.not_eq_false, Int.not_le, Int.not_lt, Bool.and_eq_true, Bool.or_eq_true, Bool.or_eq_false_iff, Bool.and_eq_false_iff] at h); (try (first | (exact Bool.noConfusion h) | (exact (h trivial).elim)))) | skip) | ((with_reducible refine (?_ : chk _ _ = true)); kernel_rfl) | ((with_reducible refine (?_ : (_ : IntKind) = _)); (with_reducible rfl)) | ((with_reducible refine (?_ : eqC (C.pvw _ _ _) (C.pvw _ _ _))); exact rfl) | ((with_reducible refine (?_ : eqC (C.pv (Value.int IntKind.u64 _)) _)); exact rfl) | ((with_reducible refine (?_ : eqC (C.pv (Value.string _)) _)); exact rfl) | exact trivial)
    · have hl := ints_len (iota k N)
      dsimp only at hn
      rw [iota_get _ _ _ (by omega)] at hn
      simp at hn
      omega
    · have hl := ints_len (iota k N)
      refine ⟨(wrap64 (k' + 1), wrap64 (i + 1)), ?_, ?_, none, And.intro rfl (And.intro (by repeat' (first | exact trivial | exact rfl | (refine And.intro ?_ ?_))) (by repeat' (first | exact trivial | exact rfl | (refine And.intro ?_ ?_))))⟩
      · dsimp only
        rw [wrap_small (n := i + 1) (by omega) (by omega), wrap_small (n := k' + 1) (by omega) (by omega)]
        exact ⟨by omega, by omega, by omega⟩
      · dsimp only
        rw [wrap_small (n := i + 1) (by omega) (by omega)]
        omega
    · have hl := ints_len (iota k N)
      dsimp only
      omega

theorem laws_eqIntS (a b : List Int) (ha : a.length ≤ 1000000000) (hb : b.length ≤ 1000000000) : AFun Try.prog 15 [] [Vw a, Vw b] (Bo (decide (a = b))) [] [] := by
  refine afun_intro fn15 rfl rfl (by repeat' (first | exact trivial | (simp; done) | (simp [*]; done) | refine ⟨?_, ?_⟩)) ?_
  unfold ac15
  have e1 := ints_len a
  have e2 := ints_len b
  repeat' (first | ((with_reducible refine (?_ : (_ : Bool) = _)); (with_reducible rfl)) | ((with_reducible refine (?_ : (_ : Nat × Nat) = _)); (with_reducible rfl)) | (with_reducible refine leafRI ?_) | (with_reducible refine leafRB ?_) | (with_reducible refine leafI ?_) | (with_reducible refine leafB ?_) | ((with_reducible refine (?_ : (_ : Int) = _)); (with_reducible rfl)) | ((with_reducible refine (?_ : (_ : List (List Value)) = _)); (with_reducible rfl)) | ((with_reducible refine (?_ : (_ : Int) ≠ 0)); (first | assumption | omega | (simp; done) | (simp only [ints_len] at *; omega) | (simp; omega))) | ((with_reducible refine (?_ : (_ : Int) ≤ _)); (first | assumption | omega | (simp; done) | (simp only [ints_len] at *; omega) | (simp; omega))) | ((with_reducible refine (?_ : (_ : Int) < _)); (first | assumption | omega | (simp; done) | (simp only [ints_len] at *; omega) | (simp; omega))) | ((with_reducible refine (?_ : (_ : Nat) ≤ _)); (first | omega | (simp only [List.length_cons, List.length_nil]; omega) | (simp [ints]; done) | (simp; omega))) | ((with_reducible refine (?_ : (_ : Nat) < _)); (first | omega | (simp only [List.length_cons, List.length_nil]; omega) | (simp [ints]; done) | (simp; omega))) | ((with_reducible refine (?_ : (_ : Nat) = _)); (first | (with_reducible rfl) | (simp; done) | (simp only [fr_len]) | (simp only [ints_len]) | omega | (simp [*]; done))) | (refine And.intro ?_ ?_) | (intro h; first | (exact Bool.noConfusion h) | ((simp only [decide_eq_true_eq, decide_eq_false_iff_not, beq_iff_eq, bne_iff_ne, ne_eq, beq_eq_false_iff_ne, bne_eq_false_iff_eq, Bool.not_eq_true', Bool.not_eq_false', Bool.not_eq_true, Bool.not_eq_false, Int.not_le, Int.not_lt, Bool.and_eq_true, Bool.or_eq_true, Bool.or_eq_false_iff, Bool.and_eq_false_iff] at h); (try (first | (exact Bool.noConfusion h) | (exact (h trivial).elim)))) | skip) | ((with_reducible refine (?_ : chk _ _ = true)); kernel_rfl) | ((with_reducible refine (?_ : (_ : IntKind) = _)); (with_reducible rfl)) | ((with_reducible refine (?_ : eqC (C.pvw _ _ _) (C.pvw _ _ _))); exact rfl) | ((with_reducible refine (?_ : eqC (C.pv (Value.int IntKind.u64 _)) _)); exact rfl) | ((with_reducible refine (?_ : eqC (C.pv (Value.string _)) _)); exact rfl) | exact trivial)
  · symm
    rw [decide_eq_false_iff_not]
    rintro rfl
    omega
  refine loop_rule (σ := Int) (fun s => [(5, I s)]) (fun _ => []) (fun s => 0 ≤ s ∧ s ≤ a.length ∧ ∀ j : Nat, j < s.toNat → a[j]? = b[j]?) (fun s => (a.length - s).toNat) (0) ?_ (by repeat' (first | exact trivial | exact rfl | (refine And.intro ?_ ?_))) trivial (fun s => ⟨rfl, rfl⟩) (fun s i h => by first | exact absurd h (Nat.not_lt_zero i) | (cases i with | zero => rfl | succ i => exact absurd (Nat.lt_of_succ_lt_succ h) (Nat.not_lt_zero i)) | (rcases i with _ | _ | _ | _ | _ | _ | _ | _ | _ | i <;> first | rfl | (exfalso; simp at h; done) | (exfalso; simp only [List.length_cons, List.length_nil] at h; omega))) ?_
  · exact ⟨by omega, by omega, fun j h => by omega⟩
  · rintro i ⟨g1, g2, g3⟩
    repeat' (first | ((with_reducible refine (?_ : (_ : Bool) = _)); (with_reducible rfl)) | ((with_reducible refine (?_ : (_ : Nat × Nat) = _)); (with_reducible rfl)) | (with_reducible refine leafRI ?_) | (with_reducible refine leafRB ?_) | (with_reducible refine leafI ?_) | (with_reducible refine leafB ?_) | ((with_reducible refine (?_ : (_ : Int) = _)); (with_reducible rfl)) | ((with_reducible refine (?_ : (_ : List (List Value)) = _)); (with_reducible rfl)) | ((with_reducible refine (?_ : (_ : Int) ≠ 0)); (first | assumption | omega | (simp; done) | (simp only [ints_len] at *; omega) | (simp; omega))) | ((with_reducible refine (?_ : (_ : Int) ≤ _)); (first | assumption | omega | (simp; done) | (simp only [ints_len] at *; omega) | (simp; omega))) | ((with_reducible refine (?_ : (_ : Int) < _)); (first | assumption | omega | (simp; done) | (simp only [ints_len] at *; omega) | (simp; omega))) | ((with_reducible refine (?_ : (_ : Nat) ≤ _)); (first | omega | (simp only [List.length_cons, List.length_nil]; omega) | (simp [ints]; done) | (simp; omega))) | ((with_reducible refine (?_ : (_ : Nat) < _)); (first | omega | (simp only [List.length_cons, List.length_nil]; omega) | (simp [ints]; done) | (simp; omega))) | ((with_reducible refine (?_ : (_ : Nat) = _)); (first | (with_reducible rfl) | (simp; done) | (simp only [fr_len]) | (simp only [ints_len]) | omega | (simp [*]; done))) | ((with_reducible refine view_at ?_ ?_); (focus (constructor <;> (first | omega | (simp only [ints_len] at *; omega)))); intro n hn) | (refine And.intro ?_ ?_) | (intro h; first | (exact Bool.noConfusion h) | ((simp only [decide_eq_true_eq, decide_eq_false_iff_not, beq_iff_eq, bne_iff_ne, ne_eq, beq_eq_false_iff_ne, bne_eq_false_iff_eq, Bool.not_eq_true', Bool.not_eq_false', Bool.not_eq_true, Bool.not_eq_false, Int.not_le, Int.not_lt, Bool.and_eq_true, Bool.or_eq_true, Bool.or_eq_false_iff, Bool.and_eq_false_iff] at h); (try (first | (exact Bool.noConfusion h) | (exact (h trivial).elim)))) | skip) | ((with_reducible refine (?_ : chk _ _ = true)); kernel_rfl) | ((with_reducible refine (?_ : (_ : IntKind) = _)); (with_reducible rfl)) | ((with_reducible refine (?_ : eqC (C.pvw _ _ _) (C.pvw _ _ _))); exact rfl) | ((with_reducible refine (?_ : eqC (C.pv (Value.int IntKind.u64 _)) _)); exact rfl) | ((with_reducible refine (?_ : eqC (C.pv (Value.string _)) _)); exact rfl) | exact trivial)
    · symm
      rw [decide_eq_false_iff_not]
      rintro rfl
      simp_all
    · refine ⟨(wrap64 (i + 1)), ?_, ?_, none, And.intro rfl (And.intro (by repeat' (first | exact trivial | exact rfl | (refine And.intro ?_ ?_))) (by repeat' (first | exact trivial | exact rfl | (refine And.intro ?_ ?_))))⟩
      · rw [wrap_small (n := i + 1) (by omega) (by omega)]
        refine ⟨by omega, by omega, fun j hj => ?_⟩
        by_cases e : j = i.toNat
        · subst e; simp_all
        · exact g3 j (by omega)
      · rw [wrap_small (n := i + 1) (by omega) (by omega)]
        omega
    · symm
      rw [decide_eq_true_eq]
      apply List.ext_getElem?
      intro j
      by_cases e : j < a.length
      · exact g3 j (by omega)
      · rw [List.getElem?_eq_none (by omega), List.getElem?_eq_none (by omega)]

end Go.Proofs.Ytfbadfnhnaaeeaa
