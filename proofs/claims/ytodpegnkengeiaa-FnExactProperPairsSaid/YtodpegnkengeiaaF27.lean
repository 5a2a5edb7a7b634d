/- ProperPairs. -/
import Derived.Test.YtodpegnkengeiaaF28
namespace Go.Proofs.Ytodpegnkengeiaa
set_option linter.unusedSimpArgs false
set_option linter.unusedVariables false
open Go.RowKit
set_option maxRecDepth 100000
set_option maxHeartbeats 2000000

/-! lists that ascend -/
def asc (l : List P2) : Prop := l.Pairwise fun p q => p.1 < q.1
theorem asc_ext : ∀ {l l' : List P2}, asc l → asc l' → (∀ q, q ∈ l ↔ q ∈ l') → l = l'
  | [], [], _, _, _ => rfl
  | [], b :: r, _, _, h => by have := (h b).2 (by simp); simp at this
  | a :: r, [], _, _, h => by have := (h a).1 (by simp); simp at this
  | a :: r, b :: r', h1, h2, h => by
    have h1' := List.pairwise_cons.1 h1
    have h2' := List.pairwise_cons.1 h2
    have hab : a = b := by
      rcases List.mem_cons.1 ((h a).1 (by simp)) with e | e
      · exact e
      · rcases List.mem_cons.1 ((h b).2 (by simp)) with e' | e'
        · exact e'.symm
        · have k1 := h2'.1 a e
          have k2 := h1'.1 b e'
          omega
    subst hab
    rw [asc_ext h1'.2 h2'.2 fun q => ?_]
    constructor
    · intro hq
      rcases List.mem_cons.1 ((h q).1 (List.mem_cons_of_mem _ hq)) with e | e
      · subst e; have := h1'.1 q hq; omega
      · exact e
    · intro hq
      rcases List.mem_cons.1 ((h q).2 (List.mem_cons_of_mem _ hq)) with e | e
      · subst e; have := h2'.1 q hq; omega
      · exact e

theorem ipB_iff {n m : Int} : ∀ {k : Nat} {q : P2}, q ∈ ipB n m k ↔ ∃ j : Nat, j < k ∧ isSq (m - n * j * j) = true ∧ q = (rt (m - n * j * j), (j : Int))
  | 0, q => by simp [ipB]
  | k + 1, q => by
    constructor
    · exact ipB_mem
    · rintro ⟨j, h1, h2, h3⟩
      simp only [ipB]
      by_cases e : j = k
      · subst e; rw [if_pos h2]; simp [h3]
      · have := (ipB_iff (k := k) (q := q)).2 ⟨j, by omega, h2, h3⟩
        split
        · exact List.mem_cons_of_mem _ this
        · exact this
theorem ipB_asc {n m : Int} (hn : 1 ≤ n) : ∀ k, asc (ipB n m k)
  | 0 => List.Pairwise.nil
  | k + 1 => by
    simp only [ipB]
    split
    · refine List.pairwise_cons.2 ⟨fun q hq => ?_, ipB_asc hn k⟩
      obtain ⟨j, h1, h2, rfl⟩ := ipB_mem hq
      exact rt_down hn h1 h2 (by assumption)
    · exact ipB_asc hn k
/-- The points, as the program looks for them: x upward. -/
def pxC (n m x : Int) : Bool := decide ((m - x * x) % n = 0) && isSq ((m - x * x) / n) && decide (((Int.gcd x (rt ((m - x * x) / n)) : Nat) : Int) = 1)
def pxB (n m : Int) : Nat → List P2
  | 0 => []
  | k + 1 => pxB n m k ++ if pxC n m k then [((k : Int), rt ((m - (k : Int) * k) / n))] else []
theorem pxB_iff {n m : Int} : ∀ {k : Nat} {q : P2}, q ∈ pxB n m k ↔ ∃ x : Nat, x < k ∧ pxC n m x = true ∧ q = ((x : Int), rt ((m - (x : Int) * x) / n))
  | 0, q => by simp [pxB]
  | k + 1, q => by
    simp only [pxB, List.mem_append, pxB_iff (k := k)]
    constructor
    · rintro (⟨x, h1, h2, h3⟩ | h)
      · exact ⟨x, by omega, h2, h3⟩
      · split at h
        · exact ⟨k, by omega, by assumption, by simpa using h⟩
        · simp at h
    · rintro ⟨x, h1, h2, h3⟩
      by_cases e : x = k
      · subst e; right; rw [if_pos h2]; simp [h3]
      · left; exact ⟨x, by omega, h2, h3⟩
theorem pxB_asc {n m : Int} : ∀ k, asc (pxB n m k)
  | 0 => List.Pairwise.nil
  | k + 1 => by
    simp only [pxB]
    refine List.pairwise_append.2 ⟨pxB_asc k, ?_, fun p hp q hq => ?_⟩
    · split <;> simp
    · obtain ⟨x, h1, _, rfl⟩ := pxB_iff.1 hp
      split at hq
      · simp at hq; subst hq; dsimp only; omega
      · simp at hq
theorem pxB_len (n m : Int) : ∀ k, (pxB n m k).length ≤ k
  | 0 => Nat.le_refl _
  | k + 1 => by have := pxB_len n m k; simp only [pxB]; split <;> simp <;> omega
def gc1 (q : P2) : Bool := decide (((Int.gcd q.1 q.2 : Nat) : Int) = 1)
theorem sq_rt {j : Int} (h : 0 ≤ j) : rt (j * j) = j := by
  have e : (j + 1) * (j + 1) = j * j + (2 * j + 1) := by grind
  exact rt_eq h (Int.le_refl _) (by omega)
/-- Both lists are the same. -/
theorem pp_same {n m : Int} (hn : 1 ≤ n) (hm : 0 ≤ m) : (ipB n m (ipN n m).toNat).filter gc1 = pxB n m (rt m + 1).toNat := by
  apply asc_ext
  · exact List.Pairwise.filter _ (ipB_asc hn _)
  · exact pxB_asc _
  · intro q
    rw [List.mem_filter, ipB_iff, pxB_iff]
    constructor
    · rintro ⟨⟨j, h1, h2, rfl⟩, h3⟩
      obtain ⟨a1, a2⟩ := isSq_iff.1 h2
      obtain ⟨r0, r1, r2⟩ := rt_spec a1
      generalize hx : rt (m - n * j * j) = x at *
      have e1 : m - x * x = n * (j * j) := by rw [a2, Int.mul_assoc]; omega
      have e2 : (m - x * x) % n = 0 := by rw [e1]; exact Int.mul_emod_right _ _
      have e3 : (m - x * x) / n = j * j := by rw [e1]; exact Int.mul_ediv_cancel_left _ (by omega)
      have jj : (0 : Int) ≤ j * j := Int.mul_nonneg (by omega) (by omega)
      have hxx : x * x ≤ m := by have := Int.mul_nonneg (show 0 ≤ n by omega) jj; omega
      refine ⟨x.toNat, ?_, ?_, ?_⟩
      · have := (le_rt hm r0).2 hxx; omega
      · rw [show ((x.toNat : Nat) : Int) = x by omega]
        unfold pxC
        rw [e3, sq_rt (by omega)]
        simp [gc1] at h3
        simp [e2, isSq, sq_rt (show (0 : Int) ≤ j by omega), jj, h3]
      · rw [show ((x.toNat : Nat) : Int) = x by omega, e3, sq_rt (by omega)]
    · rintro ⟨x, h1, h2, rfl⟩
      unfold pxC at h2
      simp only [Bool.and_eq_true, decide_eq_true_eq] at h2
      obtain ⟨⟨h2, h3⟩, h4⟩ := h2
      obtain ⟨a1, a2⟩ := isSq_iff.1 h3
      generalize hy : rt ((m - (x : Int) * x) / n) = y at *
      have y0 : 0 ≤ y := by rw [← hy]; exact (rt_spec a1).1
      have e1 : n * (y * y) = m - (x : Int) * x := by
        rw [a2]
        have := Int.mul_ediv_add_emod (m - (x : Int) * x) n
        omega
      have e2 : m - n * y * y = (x : Int) * x := by rw [Int.mul_assoc]; omega
      have xx : (0 : Int) ≤ (x : Int) * x := Int.mul_nonneg (by omega) (by omega)
      refine ⟨⟨y.toNat, ?_, ?_, ?_⟩, ?_⟩
      · have := (ipN_iff hn hm y0).1 (by omega); omega
      · rw [show ((y.toNat : Nat) : Int) = y by omega, e2]
        simp [isSq, sq_rt (show (0 : Int) ≤ x by omega), xx]
      · rw [show ((y.toNat : Nat) : Int) = y by omega, e2, sq_rt (by omega)]
      · simp [gc1, h4]

theorem filter_take_step {l : List P2} {i : Nat} {q : P2} {f : P2 → Bool} (h : l[i]? = some q) : (l.take (i + 1)).filter f = (l.take i).filter f ++ if f q then [q] else [] := by
  rw [List.take_add_one, h, List.filter_append]
  congr 1
  cases hf : f q <;> simp [hf]

theorem spec_vaPrimitive (l : List P2) (hl : l.length ≤ 1000000000) (hb : ∀ q ∈ l, q.1.natAbs ≤ 1000000000000 ∧ q.2.natAbs ≤ 1000000000000) : AFun Try.prog 135 [] [Vp l] (.c (.slc (0, 0) (l.filter gc1).length)) [] [FP (l.filter gc1)] := by
  have hpl := pts_len l
  refine afun_intro fn135 (by simp) rfl (by repeat' (first | exact trivial | (simp; done) | refine ⟨?_, ?_⟩)) ?_
  unfold ac135
  repeat' (first | ((with_reducible refine (?_ : (_ : Bool) = _)); (with_reducible rfl)) | ((with_reducible refine (?_ : (_ : Nat × Nat) = _)); (with_reducible rfl)) | (with_reducible refine leafRI ?_) | (with_reducible refine leafRB ?_) | (with_reducible refine leafI ?_) | (with_reducible refine leafB ?_) | ((with_reducible refine (?_ : (_ : Int) = _)); (with_reducible rfl)) | ((with_reducible refine (?_ : (_ : List (List Value)) = _)); (with_reducible rfl)) | ((with_reducible refine (?_ : (_ : Int) ≠ 0)); (first | assumption | omega | (simp only [ints_len] at *; omega) | (simp; omega))) | ((with_reducible refine (?_ : (_ : Int) ≤ _)); (first | assumption | omega | (simp only [ints_len] at *; omega) | (simp; omega))) | ((with_reducible refine (?_ : (_ : Int) < _)); (first | assumption | omega | (simp only [ints_len] at *; omega) | (simp; omega))) | ((with_reducible refine (?_ : (_ : Nat) ≤ _)); (first | omega | (simp only [List.length_cons, List.length_nil]; omega) | (simp; omega))) | ((with_reducible refine (?_ : (_ : Nat) = _)); (first | (with_reducible rfl) | (simp; done) | (simp only [fr_len]) | (simp only [ints_len]) | omega | (simp [*]; done))) | (refine And.intro ?_ ?_) | (intro h; first | (exact Bool.noConfusion h) | ((simp only [decide_eq_true_eq, decide_eq_false_iff_not, beq_iff_eq, bne_iff_ne, ne_eq, beq_eq_false_iff_ne, bne_eq_false_iff_eq, Bool.not_eq_true', Bool.not_eq_false', Bool.not_eq_true, Bool.not_eq_false, Int.not_le, Int.not_lt, Bool.and_eq_true, Bool.or_eq_true, Bool.or_eq_false_iff, Bool.and_eq_false_iff] at h); (try (first | (exact Bool.noConfusion h) | (exact (h trivial).elim)))) | skip) | ((with_reducible refine (?_ : chk _ _ = true)); kernel_rfl) | exact trivial)
  refine loop_rule (σ := Nat × List (List Value) × Int) (fun s => [(3, .c (.slc (3, 0) s.1)), (8, I s.2.2)]) (fun s => [((2, 0), .fl 61 2 []), ((3, 0), .fl 61 2 s.2.1)]) (fun s => s.1 = s.2.1.length ∧ 0 ≤ s.2.2 ∧ s.2.2 ≤ l.length ∧ s.2.1 = pts ((l.take s.2.2.toNat).filter gc1)) (fun s => (l.length - s.2.2).toNat) ((0, [], 0)) ?_ (by repeat' (first | exact trivial | exact rfl | (refine And.intro ?_ ?_))) (by repeat' (first | exact trivial | exact rfl | (refine And.intro ?_ ?_))) (fun s => ⟨rfl, rfl⟩) (fun s i h => by first | exact absurd h (Nat.not_lt_zero i) | (cases i with | zero => rfl | succ i => exact absurd (Nat.lt_of_succ_lt_succ h) (Nat.not_lt_zero i))) ?_
  · exact ⟨rfl, by dsimp only; omega, by dsimp only; omega, by simp [pts]⟩
  · rintro ⟨c, R, i⟩ ⟨g0, g1, g2, g3⟩
    dsimp only at g0 g1 g2 g3 ⊢
    subst g3
    have wi : wrap64 (i + 1) = i + 1 := wrap_small (by omega) (by omega)
    have hi1 : (i + 1).toNat = i.toNat + 1 := by omega
    have hlen : ((l.take i.toNat).filter gc1).length ≤ i.toNat := by
      have h1 := List.length_filter_le gc1 (l.take i.toNat)
      have h2 := List.length_take_le i.toNat l
      omega
    have hbd : ∀ q, l[i.toNat]? = some q → q.1.natAbs ≤ 1000000000000 ∧ q.2.natAbs ≤ 1000000000000 := fun q hq => hb q (List.mem_of_getElem? hq)
    have st := fun q (hq : l[i.toNat]? = some q) => filter_take_step (f := gc1) hq
    have pl := pts_len ((l.take i.toNat).filter gc1)
    repeat' (first | ((with_reducible refine (?_ : (_ : Bool) = _)); (with_reducible rfl)) | ((with_reducible refine (?_ : (_ : Nat × Nat) = _)); (with_reducible rfl)) | (with_reducible refine leafRI ?_) | (with_reducible refine leafRB ?_) | (with_reducible refine leafI ?_) | (with_reducible refine leafB ?_) | ((with_reducible refine (?_ : (_ : Int) = _)); (with_reducible rfl)) | ((with_reducible refine (?_ : (_ : List (List Value)) = _)); (with_reducible rfl)) | ((with_reducible refine (?_ : (_ : Int) ≠ 0)); (first | assumption | omega | (simp only [ints_len] at *; omega) | (simp; omega))) | ((with_reducible refine (?_ : (_ : Int) ≤ _)); (first | assumption | omega | (simp only [ints_len] at *; omega) | (simp; omega))) | ((with_reducible refine (?_ : (_ : Int) < _)); (first | assumption | omega | (simp only [ints_len] at *; omega) | (simp; omega))) | ((with_reducible refine (?_ : (_ : Nat) ≤ _)); (first | omega | (simp only [List.length_cons, List.length_nil]; omega) | (simp; omega))) | ((with_reducible refine (?_ : (_ : Nat) = _)); (first | (with_reducible rfl) | (simp; done) | (simp only [fr_len]) | (simp only [ints_len]) | omega | (simp [*]; done))) | ((with_reducible refine pts_at ?_ ?_); (focus (constructor <;> (first | omega | (simp only [pts_len] at *; omega)))); intro q hq) | (refine And.intro ?_ ?_) | (intro h; first | (exact Bool.noConfusion h) | ((simp only [decide_eq_true_eq, decide_eq_false_iff_not, beq_iff_eq, bne_iff_ne, ne_eq, beq_eq_false_iff_ne, bne_eq_false_iff_eq, Bool.not_eq_true', Bool.not_eq_false', Bool.not_eq_true, Bool.not_eq_false, Int.not_le, Int.not_lt, Bool.and_eq_true, Bool.or_eq_true, Bool.or_eq_false_iff, Bool.and_eq_false_iff] at h); (try (first | (exact Bool.noConfusion h) | (exact (h trivial).elim)))) | skip) | ((refine (?_ : ACall _ _ _ _ _ _ _)); first | ((apply acall (spec_nuGcd _ _ ?_ ?_ ?_ ?_)); (focus (repeat' (first | exact rfl | (refine And.intro ?_ ?_) | (simp only [ints_len]; done) | (simp; done) | omega))))) | ((with_reducible refine (?_ : chk _ _ = true)); kernel_rfl) | exact trivial)
    any_goals ((with_reducible refine (?_ : (_ : Int) ≤ _)); (have := hbd _ ‹_›); omega)
    · refine ⟨(_, _, _), ?_, ?_, none, And.intro rfl (And.intro (by repeat' (first | exact trivial | exact rfl | (refine And.intro ?_ ?_))) (by repeat' (first | exact trivial | exact rfl | (refine And.intro ?_ ?_))))⟩
      · dsimp only
        rw [wi, hi1, st _ ‹_›, if_pos (by unfold gc1; simp [h]), pts_app]
        exact ⟨by simp [pts, g0], by omega, by omega, rfl⟩
      · dsimp only; omega
    · refine ⟨(_, _, _), ?_, ?_, none, And.intro rfl (And.intro (by repeat' (first | exact trivial | exact rfl | (refine And.intro ?_ ?_))) (by repeat' (first | exact trivial | exact rfl | (refine And.intro ?_ ?_))))⟩
      · dsimp only
        rw [wi, hi1, st _ ‹_›, if_neg (by unfold gc1; simp [h]), List.append_nil]
        exact ⟨g0, by omega, by omega, rfl⟩
      · dsimp only; omega
    · rw [g0, pl, show i.toNat = l.length by omega, List.take_length]
    · rw [show i.toNat = l.length by omega, List.take_length]

def ppG (n m : Int) : Bool := decide (1 ≤ n) && decide (n ≤ 500) && (decide (1 ≤ m) && decide (m ≤ 10000))
def ppL (n m : Int) : List P2 := if ppG n m then pxB n m (rt m + 1).toNat else []

theorem spec_ipProper (n m : Int) (h1 : 1 ≤ n) (h2 : n ≤ 500) (h3 : 1 ≤ m) (h4 : m ≤ 10000) : AFun Try.prog 82 [] [I n, I m] (.c (.slc (0, 0) (pxB n m (rt m + 1).toNat).length)) [] [FP (pxB n m (rt m + 1).toNat)] := by
  have hN : 0 ≤ ipN n m ∧ ipN n m ≤ 10001 := by
    have e0 : 0 ≤ m / n := Int.ediv_nonneg (by omega) (by omega)
    have e1 : m / n ≤ m := Int.ediv_le_self _ (by omega)
    have e2 := rt_le e0
    have e3 := (rt_spec e0).1
    unfold ipN; omega
  have hl := ipB_len n m (ipN n m).toNat
  have hb : ∀ q ∈ ipB n m (ipN n m).toNat, q.1.natAbs ≤ 1000000000000 ∧ q.2.natAbs ≤ 1000000000000 := fun q hq => by
    obtain ⟨j, e1, e2, rfl⟩ := ipB_mem hq
    obtain ⟨a1, a2⟩ := isSq_iff.1 e2
    have a3 := rt_le a1
    have a4 := (rt_spec a1).1
    have a5 : 0 ≤ n * (j : Int) * j := Int.mul_nonneg (Int.mul_nonneg (by omega) (by omega)) (by omega)
    dsimp only; omega
  have hs := pp_same (n := n) (m := m) h1 (by omega)
  refine afun_intro fn82 (by simp) rfl (by repeat' (first | exact trivial | (simp; done) | refine ⟨?_, ?_⟩)) ?_
  unfold ac82
  repeat' (first | ((with_reducible refine (?_ : (_ : Bool) = _)); (with_reducible rfl)) | ((with_reducible refine (?_ : (_ : Nat × Nat) = _)); (with_reducible rfl)) | (with_reducible refine leafRI ?_) | (with_reducible refine leafRB ?_) | (with_reducible refine leafI ?_) | (with_reducible refine leafB ?_) | ((with_reducible refine (?_ : (_ : Int) = _)); (with_reducible rfl)) | ((with_reducible refine (?_ : (_ : List (List Value)) = _)); (with_reducible rfl)) | ((with_reducible refine (?_ : (_ : Int) ≠ 0)); (first | assumption | omega | (simp only [ints_len] at *; omega) | (simp; omega))) | ((with_reducible refine (?_ : (_ : Int) ≤ _)); (first | assumption | omega | (simp only [ints_len] at *; omega) | (simp; omega))) | ((with_reducible refine (?_ : (_ : Int) < _)); (first | assumption | omega | (simp only [ints_len] at *; omega) | (simp; omega))) | ((with_reducible refine (?_ : (_ : Nat) ≤ _)); (first | omega | (simp only [List.length_cons, List.length_nil]; omega) | (simp; omega))) | ((with_reducible refine (?_ : (_ : Nat) = _)); (first | (with_reducible rfl) | (simp; done) | (simp only [fr_len]) | (simp only [ints_len]) | omega | (simp [*]; done))) | (refine And.intro ?_ ?_) | (intro h; first | (exact Bool.noConfusion h) | ((simp only [decide_eq_true_eq, decide_eq_false_iff_not, beq_iff_eq, bne_iff_ne, ne_eq, beq_eq_false_iff_ne, bne_eq_false_iff_eq, Bool.not_eq_true', Bool.not_eq_false', Bool.not_eq_true, Bool.not_eq_false, Int.not_le, Int.not_lt, Bool.and_eq_true, Bool.or_eq_true, Bool.or_eq_false_iff, Bool.and_eq_false_iff] at h); (try (first | (exact Bool.noConfusion h) | (exact (h trivial).elim)))) | skip) | ((refine (?_ : ACall _ _ _ _ _ _ _)); first | ((apply acall (spec_ipPairs _ _ ?_ ?_ ?_ ?_)); (focus (repeat' (first | exact rfl | (refine And.intro ?_ ?_) | (simp only [ints_len]; done) | (simp; done) | omega)))) | ((apply acall (spec_vaPrimitive _ ?_ ?_)); (focus (repeat' (first | exact rfl | (refine And.intro ?_ ?_) | (simp only [ints_len]; done) | (simp; done) | omega))))) | ((with_reducible refine (?_ : chk _ _ = true)); kernel_rfl) | exact trivial)
  all_goals (first | exact (hb _ ‹_›).1 | exact (hb _ ‹_›).2 | (rw [hs]; done) | omega)

theorem spec_vaShown (n : Int) : AFun Try.prog 81 [] [I n] (Bo (decide (1 ≤ n) && decide (n ≤ 10000))) [] [] := by
  refine afun_intro fn81 (by simp) rfl (by repeat' (first | exact trivial | (simp; done) | refine ⟨?_, ?_⟩)) ?_
  unfold ac81
  repeat' (first | ((with_reducible refine (?_ : (_ : Bool) = _)); (with_reducible rfl)) | ((with_reducible refine (?_ : (_ : Nat × Nat) = _)); (with_reducible rfl)) | (with_reducible refine leafRI ?_) | (with_reducible refine leafRB ?_) | (with_reducible refine leafI ?_) | (with_reducible refine leafB ?_) | ((with_reducible refine (?_ : (_ : Int) = _)); (with_reducible rfl)) | ((with_reducible refine (?_ : (_ : List (List Value)) = _)); (with_reducible rfl)) | ((with_reducible refine (?_ : (_ : Int) ≠ 0)); (first | assumption | omega | (simp only [ints_len] at *; omega) | (simp; omega))) | ((with_reducible refine (?_ : (_ : Int) ≤ _)); (first | assumption | omega | (simp only [ints_len] at *; omega) | (simp; omega))) | ((with_reducible refine (?_ : (_ : Int) < _)); (first | assumption | omega | (simp only [ints_len] at *; omega) | (simp; omega))) | ((with_reducible refine (?_ : (_ : Nat) ≤ _)); (first | omega | (simp only [List.length_cons, List.length_nil]; omega) | (simp; omega))) | ((with_reducible refine (?_ : (_ : Nat) = _)); (first | (with_reducible rfl) | (simp; done) | (simp only [fr_len]) | (simp only [ints_len]) | omega | (simp [*]; done))) | (refine And.intro ?_ ?_) | (intro h; first | (exact Bool.noConfusion h) | ((simp only [decide_eq_true_eq, decide_eq_false_iff_not, beq_iff_eq, bne_iff_ne, ne_eq, beq_eq_false_iff_ne, bne_eq_false_iff_eq, Bool.not_eq_true', Bool.not_eq_false', Bool.not_eq_true, Bool.not_eq_false, Int.not_le, Int.not_lt, Bool.and_eq_true, Bool.or_eq_true, Bool.or_eq_false_iff, Bool.and_eq_false_iff] at h); (try (first | (exact Bool.noConfusion h) | (exact (h trivial).elim)))) | skip) | ((refine (?_ : ACall _ _ _ _ _ _ _)); first | ((apply acall (spec_l1In _ _ _)); (focus (repeat' (first | exact rfl | (refine And.intro ?_ ?_) | (simp only [ints_len]; done) | (simp; done) | omega))))) | ((with_reducible refine (?_ : chk _ _ = true)); kernel_rfl) | exact trivial)

theorem impl_isShown (n : Int) : AFun Try.prog 84 [] [I n] (Bo (decide (1 ≤ n) && decide (n ≤ 10000))) [] [] := by
  refine afun_intro fn84 (by simp) rfl (by repeat' (first | exact trivial | (simp; done) | refine ⟨?_, ?_⟩)) ?_
  unfold ac84
  repeat' (first | ((with_reducible refine (?_ : (_ : Bool) = _)); (with_reducible rfl)) | ((with_reducible refine (?_ : (_ : Nat × Nat) = _)); (with_reducible rfl)) | (with_reducible refine leafRI ?_) | (with_reducible refine leafRB ?_) | (with_reducible refine leafI ?_) | (with_reducible refine leafB ?_) | ((with_reducible refine (?_ : (_ : Int) = _)); (with_reducible rfl)) | ((with_reducible refine (?_ : (_ : List (List Value)) = _)); (with_reducible rfl)) | ((with_reducible refine (?_ : (_ : Int) ≠ 0)); (first | assumption | omega | (simp only [ints_len] at *; omega) | (simp; omega))) | ((with_reducible refine (?_ : (_ : Int) ≤ _)); (first | assumption | omega | (simp only [ints_len] at *; omega) | (simp; omega))) | ((with_reducible refine (?_ : (_ : Int) < _)); (first | assumption | omega | (simp only [ints_len] at *; omega) | (simp; omega))) | ((with_reducible refine (?_ : (_ : Nat) ≤ _)); (first | omega | (simp only [List.length_cons, List.length_nil]; omega) | (simp; omega))) | ((with_reducible refine (?_ : (_ : Nat) = _)); (first | (with_reducible rfl) | (simp; done) | (simp only [fr_len]) | (simp only [ints_len]) | omega | (simp [*]; done))) | (refine And.intro ?_ ?_) | (intro h; first | (exact Bool.noConfusion h) | ((simp only [decide_eq_true_eq, decide_eq_false_iff_not, beq_iff_eq, bne_iff_ne, ne_eq, beq_eq_false_iff_ne, bne_eq_false_iff_eq, Bool.not_eq_true', Bool.not_eq_false', Bool.not_eq_true, Bool.not_eq_false, Int.not_le, Int.not_lt, Bool.and_eq_true, Bool.or_eq_true, Bool.or_eq_false_iff, Bool.and_eq_false_iff] at h); (try (first | (exact Bool.noConfusion h) | (exact (h trivial).elim)))) | skip) | ((with_reducible refine (?_ : chk _ _ = true)); kernel_rfl) | exact trivial)
  all_goals (first | rfl | (change _ = _; simp [*]; done) | (change _ = _; simp [*]; omega) | (change _ = _; rw [Bool.eq_iff_iff]; simp; omega))

theorem spec_ProperPairs (n m : Int) : AFun Try.prog 38 [] [I n, I m] (PS (ppL n m).length (ppG n m)) [] [FP (ppL n m)] := by
  refine afun_intro fn38 (by simp) rfl (by repeat' (first | exact trivial | (simp; done) | refine ⟨?_, ?_⟩)) ?_
  unfold ac38
  repeat' (first | ((with_reducible refine (?_ : (_ : Bool) = _)); (with_reducible rfl)) | ((with_reducible refine (?_ : (_ : Nat × Nat) = _)); (with_reducible rfl)) | (with_reducible refine leafRI ?_) | (with_reducible refine leafRB ?_) | (with_reducible refine leafI ?_) | (with_reducible refine leafB ?_) | ((with_reducible refine (?_ : (_ : Int) = _)); (with_reducible rfl)) | ((with_reducible refine (?_ : (_ : List (List Value)) = _)); (with_reducible rfl)) | ((with_reducible refine (?_ : (_ : Int) ≠ 0)); (first | assumption | omega | (simp only [ints_len] at *; omega) | (simp; omega))) | ((with_reducible refine (?_ : (_ : Int) ≤ _)); (first | assumption | omega | (simp only [ints_len] at *; omega) | (simp; omega))) | ((with_reducible refine (?_ : (_ : Int) < _)); (first | assumption | omega | (simp only [ints_len] at *; omega) | (simp; omega))) | ((with_reducible refine (?_ : (_ : Nat) ≤ _)); (first | omega | (simp only [List.length_cons, List.length_nil]; omega) | (simp; omega))) | ((with_reducible refine (?_ : (_ : Nat) = _)); (first | (with_reducible rfl) | (simp; done) | (simp only [fr_len]) | (simp only [ints_len]) | omega | (simp [*]; done))) | (refine And.intro ?_ ?_) | (intro h; first | (exact Bool.noConfusion h) | ((simp only [decide_eq_true_eq, decide_eq_false_iff_not, beq_iff_eq, bne_iff_ne, ne_eq, beq_eq_false_iff_ne, bne_eq_false_iff_eq, Bool.not_eq_true', Bool.not_eq_false', Bool.not_eq_true, Bool.not_eq_false, Int.not_le, Int.not_lt, Bool.and_eq_true, Bool.or_eq_true, Bool.or_eq_false_iff, Bool.and_eq_false_iff] at h); (try (first | (exact Bool.noConfusion h) | (exact (h trivial).elim)))) | skip) | ((refine (?_ : ACall _ _ _ _ _ _ _)); first | ((apply acall (spec_l1In _ _ _)); (focus (repeat' (first | exact rfl | (refine And.intro ?_ ?_) | (simp only [ints_len]; done) | (simp; done) | omega)))) | ((apply acall (spec_vaShown _)); (focus (repeat' (first | exact rfl | (refine And.intro ?_ ?_) | (simp only [ints_len]; done) | (simp; done) | omega)))) | ((apply acall (spec_ipProper _ _ ?_ ?_ ?_ ?_)); (focus (repeat' (first | exact rfl | (refine And.intro ?_ ?_) | (simp only [ints_len]; done) | (simp; done) | omega))))) | ((with_reducible refine (?_ : chk _ _ = true)); kernel_rfl) | exact trivial)
  all_goals first
    | omega
    | (have hG : ppG n m = true := by (unfold ppG; grind)
       first | exact hG.symm | (simp [ppL, hG]; done))
    | (have hG : ppG n m = false := by (unfold ppG; grind)
       first | exact hG.symm | (simp [ppL, hG, pts]; done))

theorem pxB_step {n m x : Int} (h : 0 ≤ x) : pxB n m (x + 1).toNat = pxB n m x.toNat ++ if pxC n m x then [(x, rt ((m - x * x) / n))] else [] := by
  rw [show (x + 1).toNat = x.toNat + 1 by omega, pxB, show ((x.toNat : Nat) : Int) = x by omega]

theorem impl_ProperPairs (n m : Int) : AFun Try.prog 39 [] [I n, I m] (PS (ppL n m).length (ppG n m)) [] [FP (ppL n m)] := by
  by_cases hG : ppG n m = true
  · have hG2 : 1 ≤ n ∧ n ≤ 500 ∧ 1 ≤ m ∧ m ≤ 10000 := by unfold ppG at hG; grind
    have hL : ppL n m = pxB n m (rt m + 1).toNat := by simp [ppL, hG]
    have r0 := (rt_spec (n := m) (by omega)).1
    have r1 := rt_le (n := m) (by omega)
    refine afun_intro fn39 (by simp) rfl (by repeat' (first | exact trivial | (simp; done) | refine ⟨?_, ?_⟩)) ?_
    unfold ac39
    repeat' (first | ((with_reducible refine (?_ : (_ : Bool) = _)); (with_reducible rfl)) | ((with_reducible refine (?_ : (_ : Nat × Nat) = _)); (with_reducible rfl)) | (with_reducible refine leafRI ?_) | (with_reducible refine leafRB ?_) | (with_reducible refine leafI ?_) | (with_reducible refine leafB ?_) | ((with_reducible refine (?_ : (_ : Int) = _)); (with_reducible rfl)) | ((with_reducible refine (?_ : (_ : List (List Value)) = _)); (with_reducible rfl)) | ((with_reducible refine (?_ : (_ : Int) ≠ 0)); (first | assumption | omega | (simp only [ints_len] at *; omega) | (simp; omega))) | ((with_reducible refine (?_ : (_ : Int) ≤ _)); (first | assumption | omega | (simp only [ints_len] at *; omega) | (simp; omega))) | ((with_reducible refine (?_ : (_ : Int) < _)); (first | assumption | omega | (simp only [ints_len] at *; omega) | (simp; omega))) | ((with_reducible refine (?_ : (_ : Nat) ≤ _)); (first | omega | (simp only [List.length_cons, List.length_nil]; omega) | (simp; omega))) | ((with_reducible refine (?_ : (_ : Nat) = _)); (first | (with_reducible rfl) | (simp; done) | (simp only [fr_len]) | (simp only [ints_len]) | omega | (simp [*]; done))) | (refine And.intro ?_ ?_) | (intro h; first | (exact Bool.noConfusion h) | ((simp only [decide_eq_true_eq, decide_eq_false_iff_not, beq_iff_eq, bne_iff_ne, ne_eq, beq_eq_false_iff_ne, bne_eq_false_iff_eq, Bool.not_eq_true', Bool.not_eq_false', Bool.not_eq_true, Bool.not_eq_false, Int.not_le, Int.not_lt, Bool.and_eq_true, Bool.or_eq_true, Bool.or_eq_false_iff, Bool.and_eq_false_iff] at h); (try (exfalso; omega))) | skip) | ((refine (?_ : ACall _ _ _ _ _ _ _)); first | ((apply acall (impl_isFactor _)); (focus (repeat' (first | exact rfl | (refine And.intro ?_ ?_) | (simp only [ints_len]; done) | (simp; done) | omega)))) | ((apply acall (impl_isShown _)); (focus (repeat' (first | exact rfl | (refine And.intro ?_ ?_) | (simp only [ints_len]; done) | (simp; done) | omega))))) | ((with_reducible refine (?_ : chk _ _ = true)); kernel_rfl) | exact trivial)
    refine loop_rule (σ := Nat × List (List Value) × Int) (fun s => [(6, .c (.slc (18, 0) s.1)), (7, I s.2.2)]) (fun s => [((4, 0), .fl 61 2 []), ((18, 0), .fl 61 2 s.2.1)]) (fun s => s.1 = s.2.1.length ∧ 0 ≤ s.2.2 ∧ s.2.2 ≤ rt m + 1 ∧ s.2.1 = pts (pxB n m s.2.2.toNat)) (fun s => (rt m + 1 - s.2.2).toNat) ((0, [], 0)) ?_ (by repeat' (first | exact trivial | exact rfl | (refine And.intro ?_ ?_))) (by repeat' (first | exact trivial | exact rfl | (refine And.intro ?_ ?_))) (fun s => ⟨rfl, rfl⟩) (fun s i h => by first | exact absurd h (Nat.not_lt_zero i) | (cases i with | zero => rfl | succ i => exact absurd (Nat.lt_of_succ_lt_succ h) (Nat.not_lt_zero i))) ?_
    · exact ⟨rfl, by dsimp only; omega, by dsimp only; omega, rfl⟩
    · rintro ⟨c, R, x⟩ ⟨g0, g1, g2, g3⟩
      dsimp only at g0 g1 g2 g3 ⊢
      subst g3
      have hi := le_rt (n := m) (y := x) (by omega) g1
      have b1 := mul_bd (a := x) (b := x) (A := 10001) (B := 10001) (by omega) (by omega) (by omega) (by omega)
      have v1 : wrap64 (x * x) = x * x := wrap_small (by omega) (by omega)
      have v3 : wrap64 (m - x * x) = m - x * x := wrap_small (by omega) (by omega)
      have v4 : wrap64 (x + 1) = x + 1 := wrap_small (by omega) (by omega)
      by_cases hx : x * x ≤ m
      · have xx := Int.mul_nonneg g1 g1
        have e0 : 0 ≤ (m - x * x) / n := Int.ediv_nonneg (by omega) (by omega)
        have e1 : (m - x * x) / n ≤ m - x * x := Int.ediv_le_self _ (by omega)
        have vd : wrap64 ((wrap64 (m - wrap64 (x * x))).tdiv n) = (m - x * x) / n := by
          rw [v1, v3, tdiv_nonneg' (by omega)]; exact wrap_small (by omega) (by omega)
        have vm : (wrap64 (m - wrap64 (x * x))).tmod n = (m - x * x) % n := by rw [v1, v3, tmod_nonneg' (by omega)]
        have ra := rt_le (n := (m - x * x) / n) (by omega)
        have rb := (rt_spec (n := (m - x * x) / n) (by omega)).1
        rw [← vd] at ra rb
        have st := pxB_step (n := n) (m := m) g1
        have pc : pxC n m x = (decide ((wrap64 (m - wrap64 (x * x))).tmod n = 0) && isSq (wrap64 ((wrap64 (m - wrap64 (x * x))).tdiv n)) && decide (((Int.gcd x (rt (wrap64 ((wrap64 (m - wrap64 (x * x))).tdiv n))) : Nat) : Int) = 1)) := by
          rw [vd, vm]; rfl
        rw [pc, ← vd] at st
        have hl := pxB_len n m x.toNat
        have pl := pts_len (pxB n m x.toNat)
        have wr : ¬ rt m < x := by omega
        repeat' (first | ((with_reducible refine (?_ : (_ : Bool) = _)); (with_reducible rfl)) | ((with_reducible refine (?_ : (_ : Nat × Nat) = _)); (with_reducible rfl)) | (with_reducible refine leafRI ?_) | (with_reducible refine leafRB ?_) | (with_reducible refine leafI ?_) | (with_reducible refine leafB ?_) | ((with_reducible refine (?_ : (_ : Int) = _)); (with_reducible rfl)) | ((with_reducible refine (?_ : (_ : List (List Value)) = _)); (with_reducible rfl)) | ((with_reducible refine (?_ : (_ : Int) ≠ 0)); (first | assumption | omega | (simp only [ints_len] at *; omega) | (simp; omega))) | ((with_reducible refine (?_ : (_ : Int) ≤ _)); (first | assumption | omega | (simp only [ints_len] at *; omega) | (simp; omega))) | ((with_reducible refine (?_ : (_ : Int) < _)); (first | assumption | omega | (simp only [ints_len] at *; omega) | (simp; omega))) | ((with_reducible refine (?_ : (_ : Nat) ≤ _)); (first | omega | (simp only [List.length_cons, List.length_nil]; omega) | (simp; omega))) | ((with_reducible refine (?_ : (_ : Nat) = _)); (first | (with_reducible rfl) | (simp; done) | (simp only [fr_len]) | (simp only [ints_len]) | omega | (simp [*]; done))) | (refine And.intro ?_ ?_) | (intro h; first | (exact Bool.noConfusion h) | ((simp only [decide_eq_true_eq, decide_eq_false_iff_not, beq_iff_eq, bne_iff_ne, ne_eq, beq_eq_false_iff_ne, bne_eq_false_iff_eq, Bool.not_eq_true', Bool.not_eq_false', Bool.not_eq_true, Bool.not_eq_false, Int.not_le, Int.not_lt, Bool.and_eq_true, Bool.or_eq_true, Bool.or_eq_false_iff, Bool.and_eq_false_iff] at h); (try (exfalso; omega))) | skip) | ((refine (?_ : ACall _ _ _ _ _ _ _)); first | ((apply acall (impl_isSquare _ ?_)); (focus (repeat' (first | exact rfl | (refine And.intro ?_ ?_) | (simp only [ints_len]; done) | (simp; done) | omega)))) | ((apply acall (impl_root _ ?_ ?_)); (focus (repeat' (first | exact rfl | (refine And.intro ?_ ?_) | (simp only [ints_len]; done) | (simp; done) | omega)))) | ((apply acall (impl_gcd _ _ ?_ ?_ ?_ ?_)); (focus (repeat' (first | exact rfl | (refine And.intro ?_ ?_) | (simp only [ints_len]; done) | (simp; done) | omega))))) | ((with_reducible refine (?_ : chk _ _ = true)); kernel_rfl) | exact trivial)
        all_goals (try omega)
        · refine ⟨(_, _, _), ?_, ?_, none, And.intro rfl (And.intro (by repeat' (first | exact trivial | exact rfl | (refine And.intro ?_ ?_))) (by repeat' (first | exact trivial | exact rfl | (refine And.intro ?_ ?_))))⟩
          · dsimp only
            rw [v4, st, if_pos (by clear v1 v3 vd vm st pc; simp [*]), pts_app]
            exact ⟨by simp [pts, g0], by omega, by omega, rfl⟩
          · dsimp only; omega
        · refine ⟨(_, _, _), ?_, ?_, none, And.intro rfl (And.intro (by repeat' (first | exact trivial | exact rfl | (refine And.intro ?_ ?_))) (by repeat' (first | exact trivial | exact rfl | (refine And.intro ?_ ?_))))⟩
          · dsimp only
            rw [v4, st, if_neg (by clear v1 v3 vd vm st pc; simp [*]), List.append_nil]
            exact ⟨g0, by omega, by omega, rfl⟩
          · dsimp only; omega
        · refine ⟨(_, _, _), ?_, ?_, none, And.intro rfl (And.intro (by repeat' (first | exact trivial | exact rfl | (refine And.intro ?_ ?_))) (by repeat' (first | exact trivial | exact rfl | (refine And.intro ?_ ?_))))⟩
          · dsimp only
            rw [v4, st, if_neg (by clear v1 v3 vd vm st pc; simp [*]), List.append_nil]
            exact ⟨g0, by omega, by omega, rfl⟩
          · dsimp only; omega
        · refine ⟨(_, _, _), ?_, ?_, none, And.intro rfl (And.intro (by repeat' (first | exact trivial | exact rfl | (refine And.intro ?_ ?_))) (by repeat' (first | exact trivial | exact rfl | (refine And.intro ?_ ?_))))⟩
          · dsimp only
            rw [v4, st, if_neg (by clear v1 v3 vd vm st pc; simp [*]), List.append_nil]
            exact ⟨g0, by omega, by omega, rfl⟩
          · dsimp only; omega
      · have pl := pts_len (pxB n m x.toNat)
        repeat' (first | ((with_reducible refine (?_ : (_ : Bool) = _)); (with_reducible rfl)) | ((with_reducible refine (?_ : (_ : Nat × Nat) = _)); (with_reducible rfl)) | (with_reducible refine leafRI ?_) | (with_reducible refine leafRB ?_) | (with_reducible refine leafI ?_) | (with_reducible refine leafB ?_) | ((with_reducible refine (?_ : (_ : Int) = _)); (with_reducible rfl)) | ((with_reducible refine (?_ : (_ : List (List Value)) = _)); (with_reducible rfl)) | ((with_reducible refine (?_ : (_ : Int) ≠ 0)); (first | assumption | omega | (simp only [ints_len] at *; omega) | (simp; omega))) | ((with_reducible refine (?_ : (_ : Int) ≤ _)); (first | assumption | omega | (simp only [ints_len] at *; omega) | (simp; omega))) | ((with_reducible refine (?_ : (_ : Int) < _)); (first | assumption | omega | (simp only [ints_len] at *; omega) | (simp; omega))) | ((with_reducible refine (?_ : (_ : Nat) ≤ _)); (first | omega | (simp only [List.length_cons, List.length_nil]; omega) | (simp; omega))) | ((with_reducible refine (?_ : (_ : Nat) = _)); (first | (with_reducible rfl) | (simp; done) | (simp only [fr_len]) | (simp only [ints_len]) | omega | (simp [*]; done))) | (refine And.intro ?_ ?_) | (intro h; first | (exact Bool.noConfusion h) | ((simp only [decide_eq_true_eq, decide_eq_false_iff_not, beq_iff_eq, bne_iff_ne, ne_eq, beq_eq_false_iff_ne, bne_eq_false_iff_eq, Bool.not_eq_true', Bool.not_eq_false', Bool.not_eq_true, Bool.not_eq_false, Int.not_le, Int.not_lt, Bool.and_eq_true, Bool.or_eq_true, Bool.or_eq_false_iff, Bool.and_eq_false_iff] at h); (try (exfalso; omega))) | skip) | ((with_reducible refine (?_ : chk _ _ = true)); kernel_rfl) | exact trivial)
        · rw [hL, show (rt m + 1).toNat = x.toNat by omega, g0, pl]
        · exact hG.symm
        · rw [hL, show (rt m + 1).toNat = x.toNat by omega]
  · have hL : ppL n m = [] := by simp [ppL, hG]
    refine afun_intro fn39 (by simp) rfl (by repeat' (first | exact trivial | (simp; done) | refine ⟨?_, ?_⟩)) ?_
    unfold ac39
    repeat' (first | ((with_reducible refine (?_ : (_ : Bool) = _)); (with_reducible rfl)) | ((with_reducible refine (?_ : (_ : Nat × Nat) = _)); (with_reducible rfl)) | (with_reducible refine leafRI ?_) | (with_reducible refine leafRB ?_) | (with_reducible refine leafI ?_) | (with_reducible refine leafB ?_) | ((with_reducible refine (?_ : (_ : Int) = _)); (with_reducible rfl)) | ((with_reducible refine (?_ : (_ : List (List Value)) = _)); (with_reducible rfl)) | ((with_reducible refine (?_ : (_ : Int) ≠ 0)); (first | assumption | omega | (simp only [ints_len] at *; omega) | (simp; omega))) | ((with_reducible refine (?_ : (_ : Int) ≤ _)); (first | assumption | omega | (simp only [ints_len] at *; omega) | (simp; omega))) | ((with_reducible refine (?_ : (_ : Int) < _)); (first | assumption | omega | (simp only [ints_len] at *; omega) | (simp; omega))) | ((with_reducible refine (?_ : (_ : Nat) ≤ _)); (first | omega | (simp only [List.length_cons, List.length_nil]; omega) | (simp; omega))) | ((with_reducible refine (?_ : (_ : Nat) = _)); (first | (with_reducible rfl) | (simp; done) | (simp only [fr_len]) | (simp only [ints_len]) | omega | (simp [*]; done))) | (refine And.intro ?_ ?_) | (intro h; first | (exact Bool.noConfusion h) | ((simp only [decide_eq_true_eq, decide_eq_false_iff_not, beq_iff_eq, bne_iff_ne, ne_eq, beq_eq_false_iff_ne, bne_eq_false_iff_eq, Bool.not_eq_true', Bool.not_eq_false', Bool.not_eq_true, Bool.not_eq_false, Int.not_le, Int.not_lt, Bool.and_eq_true, Bool.or_eq_true, Bool.or_eq_false_iff, Bool.and_eq_false_iff] at h); (try (exfalso; omega))) | skip) | ((refine (?_ : ACall _ _ _ _ _ _ _)); first | ((apply acall (impl_isFactor _)); (focus (repeat' (first | exact rfl | (refine And.intro ?_ ?_) | (simp only [ints_len]; done) | (simp; done) | omega)))) | ((apply acall (impl_isShown _)); (focus (repeat' (first | exact rfl | (refine And.intro ?_ ?_) | (simp only [ints_len]; done) | (simp; done) | omega))))) | ((with_reducible refine (?_ : chk _ _ = true)); kernel_rfl) | exact trivial)
    all_goals first
      | (simp [hL, hG, pts]; done)
      | (exfalso; apply hG; unfold ppG; grind)

theorem claw_ProperPairs (n m : Int) : AFun Try.prog 10 [] [I n, I m] (Bo true) [] [] := by
  have hl : (ppL n m).length ≤ 10002 := by
    unfold ppL
    split
    · rename_i hG
      have hG2 : 1 ≤ n ∧ n ≤ 500 ∧ 1 ≤ m ∧ m ≤ 10000 := by unfold ppG at hG; grind
      have h1 := pxB_len n m (rt m + 1).toNat
      have h2 := rt_le (n := m) (by omega)
      omega
    · simp
  refine afun_intro fn10 (by simp) rfl (by repeat' (first | exact trivial | (simp; done) | refine ⟨?_, ?_⟩)) ?_
  unfold ac10
  repeat' (first | ((with_reducible refine (?_ : (_ : Bool) = _)); (with_reducible rfl)) | ((with_reducible refine (?_ : (_ : Nat × Nat) = _)); (with_reducible rfl)) | (with_reducible refine leafRI ?_) | (with_reducible refine leafRB ?_) | (with_reducible refine leafI ?_) | (with_reducible refine leafB ?_) | ((with_reducible refine (?_ : (_ : Int) = _)); (with_reducible rfl)) | ((with_reducible refine (?_ : (_ : List (List Value)) = _)); (with_reducible rfl)) | ((with_reducible refine (?_ : (_ : Int) ≠ 0)); (first | assumption | omega | (simp only [ints_len] at *; omega) | (simp; omega))) | ((with_reducible refine (?_ : (_ : Int) ≤ _)); (first | assumption | omega | (simp only [ints_len] at *; omega) | (simp; omega))) | ((with_reducible refine (?_ : (_ : Int) < _)); (first | assumption | omega | (simp only [ints_len] at *; omega) | (simp; omega))) | ((with_reducible refine (?_ : (_ : Nat) ≤ _)); (first | omega | (simp only [List.length_cons, List.length_nil]; omega) | (simp; omega))) | ((with_reducible refine (?_ : (_ : Nat) = _)); (first | (with_reducible rfl) | (simp; done) | (simp only [fr_len]) | (simp only [ints_len]) | omega | (simp [*]; done))) | (refine And.intro ?_ ?_) | (intro h; first | (exact Bool.noConfusion h) | ((simp only [decide_eq_true_eq, decide_eq_false_iff_not, beq_iff_eq, bne_iff_ne, ne_eq, beq_eq_false_iff_ne, bne_eq_false_iff_eq, Bool.not_eq_true', Bool.not_eq_false', Bool.not_eq_true, Bool.not_eq_false, Int.not_le, Int.not_lt, Bool.and_eq_true, Bool.or_eq_true, Bool.or_eq_false_iff, Bool.and_eq_false_iff] at h); (try (first | (exact Bool.noConfusion h) | (exact (h trivial).elim)))) | skip) | ((refine (?_ : ACall _ _ _ _ _ _ _)); first | ((apply acall (spec_ProperPairs _ _)); (focus (repeat' (first | exact rfl | (refine And.intro ?_ ?_) | (simp only [ints_len]; done) | (simp; done) | omega)))) | ((apply acall (impl_ProperPairs _ _)); (focus (repeat' (first | exact rfl | (refine And.intro ?_ ?_) | (simp only [ints_len]; done) | (simp; done) | omega)))) | ((apply acall (laws_eqPointS _ _ ?_ ?_)); (focus (repeat' (first | exact rfl | (refine And.intro ?_ ?_) | (simp only [ints_len]; done) | (simp; done) | omega)))) | ((apply alent (laws_markPointS _ _ ?_ ?_ ?_)); (focus (exact rfl)); (focus (repeat' (first | exact rfl | (refine And.intro ?_ ?_) | (simp only [ints_len]; done) | (simp; done) | omega))); (focus (exact rfl))) | ((apply acall (laws_heldPointS _ _ ?_ ?_ ?_)); (focus (repeat' (first | exact rfl | (refine And.intro ?_ ?_) | (simp only [ints_len]; done) | (simp; done) | omega))))) | ((with_reducible refine (?_ : chk _ _ = true)); kernel_rfl) | exact trivial)
  all_goals (first | omega | simp_all)

theorem law_ProperPairs (n m : Int) (w : World) : Calls Try.prog 10 #[.int .i64 n, .int .i64 m] w fun e w' => e = .returned (.bool (true)) ∧ Below w.heap.size w w' := by
  exact law_of_afun (claw_ProperPairs n m) rfl w

end Go.Proofs.Ytodpegnkengeiaa
