/- IsIsotropic. -/
import Derived.Test.YtfcndlagnhaafaaH4
namespace Go.Proofs.Ytfcndlagnhaafaa
open Go.RowKit
set_option linter.unusedSimpArgs false
set_option linter.unusedVariables false
set_option maxRecDepth 100000

/-- The class of the product of the first j. -/
noncomputable def prC (l : List Int) (p : Int) : Nat → Int
  | 0 => 1
  | j + 1 => clas (prC l p j * clas (l.getD j 0) p) p
theorem prC_bd {l : List Int} {p : Int} (hd : dgn l = true) (pl : p = 0 ∨ (prime p = true ∧ p ≤ 1000000)) : ∀ j, j ≤ l.length → (prC l p j ≠ 0 ∧ (prC l p j).natAbs ≤ 43000000) ∧ ∀ i, i < j → HOk (l.getD i 0) (l.getD i 0) p ∧ HOk (prC l p i * clas (l.getD i 0) p) (prC l p i * clas (l.getD i 0) p) p ∧ (clas (l.getD i 0) p).natAbs ≤ 43000000
  | 0, _ => ⟨by simp [prC], fun i hi => by omega⟩
  | j + 1, h => by
    obtain ⟨ih, ih2⟩ := prC_bd hd pl j (by omega)
    have hn := dgn_num hd j (l[j]'(by omega)) (by simp)
    have hg : l.getD j 0 = l[j]'(by omega) := getD_of (by simp)
    have H1 : HOk (l.getD j 0) (l.getD j 0) p := ⟨by rw [hg]; exact hn.1, by rw [hg]; exact hn.1, by rw [hg]; omega, by rw [hg]; omega, pl⟩
    have hc := clas_ok H1
    have hm : prC l p j * clas (l.getD j 0) p ≠ 0 := fun h => by
      rcases Int.mul_eq_zero.1 h with h | h
      · exact ih.1 h
      · exact hc.1 h
    have hle : (prC l p j * clas (l.getD j 0) p).natAbs ≤ 43000000 * 43000000 := by rw [Int.natAbs_mul]; exact Nat.mul_le_mul ih.2 hc.2
    have H2 : HOk (prC l p j * clas (l.getD j 0) p) (prC l p j * clas (l.getD j 0) p) p := ⟨hm, hm, by omega, by omega, pl⟩
    refine ⟨clas_ok H2, fun i hi => ?_⟩
    by_cases e : i = j
    · subst e; exact ⟨H1, H2, hc.2⟩
    · exact ih2 i (by omega)

theorem spec_hiProduct (l : List Int) (p : Int) (hd : dgn l = true) (pl : p = 0 ∨ (prime p = true ∧ p ≤ 1000000)) : AFun Try.prog 47 [] [Vw l, I p] (I (prC l p l.length)) [] [] := by
  have il := ints_len l
  have hlen := dgn_len hd
  have hb := prC_bd hd pl l.length (Nat.le_refl _)
  refine afun_intro fn47 rfl rfl (by repeat' (first | exact trivial | (simp; done) | refine ⟨?_, ?_⟩)) ?_
  unfold ac47
  repeat' (first | ((with_reducible refine (?_ : (_ : Bool) = _)); (with_reducible rfl)) | ((with_reducible refine (?_ : (_ : Nat × Nat) = _)); (with_reducible rfl)) | (with_reducible refine leafRI ?_) | (with_reducible refine leafRB ?_) | (with_reducible refine leafI ?_) | (with_reducible refine leafB ?_) | ((with_reducible refine (?_ : (_ : Int) = _)); (with_reducible rfl)) | ((with_reducible refine (?_ : (_ : List (List Value)) = _)); (with_reducible rfl)) | ((with_reducible refine (?_ : (_ : Int) ≠ 0)); (first | assumption | omega | (simp; done) | (simp only [ints_len] at *; omega) | (simp; omega))) | ((with_reducible refine (?_ : (_ : Int) ≤ _)); (first | assumption | omega | (simp; done) | (simp only [ints_len] at *; omega) | (simp; omega))) | ((with_reducible refine (?_ : (_ : Int) < _)); (first | assumption | omega | (simp; done) | (simp only [ints_len] at *; omega) | (simp; omega))) | ((with_reducible refine (?_ : (_ : Nat) ≤ _)); (first | omega | (simp only [List.length_cons, List.length_nil]; omega) | (simp [ints]; done) | (simp; omega))) | ((with_reducible refine (?_ : (_ : Nat) < _)); (first | omega | (simp only [List.length_cons, List.length_nil]; omega) | (simp [ints]; done) | (simp; omega))) | ((with_reducible refine (?_ : (_ : Nat) = _)); (first | (with_reducible rfl) | (simp; done) | (simp only [fr_len]) | (simp only [ints_len]) | omega | (simp [*]; done))) | (refine And.intro ?_ ?_) | (intro h; first | (exact Bool.noConfusion h) | ((simp only [decide_eq_true_eq, decide_eq_false_iff_not, beq_iff_eq, bne_iff_ne, ne_eq, beq_eq_false_iff_ne, bne_eq_false_iff_eq, Bool.not_eq_true', Bool.not_eq_false', Bool.not_eq_true, Bool.not_eq_false, Int.not_le, Int.not_lt, Bool.and_eq_true, Bool.or_eq_true, Bool.or_eq_false_iff, Bool.and_eq_false_iff] at h); (try (first | (exact Bool.noConfusion h) | (exact (h trivial).elim)))) | skip) | ((with_reducible refine (?_ : chk _ _ = true)); kernel_rfl) | ((with_reducible refine (?_ : (_ : IntKind) = _)); (with_reducible rfl)) | ((with_reducible refine (?_ : eqC (C.pvw _ _ _) (C.pvw _ _ _))); exact rfl) | ((with_reducible refine (?_ : eqC (C.pv (Value.int IntKind.u64 _)) _)); exact rfl) | exact trivial)
  refine loop_rule (σ := Int × Int) (fun s => [(5, I s.1), (10, I s.2)]) (fun _ => []) (fun s => 0 ≤ s.2 ∧ s.2 ≤ l.length ∧ s.1 = prC l p s.2.toNat) (fun s => (l.length - s.2).toNat) ((1, 0)) ?_ (by repeat' (first | exact trivial | exact rfl | (refine And.intro ?_ ?_))) trivial (fun s => ⟨rfl, rfl⟩) (fun s i h => by first | exact absurd h (Nat.not_lt_zero i) | (cases i with | zero => rfl | succ i => exact absurd (Nat.lt_of_succ_lt_succ h) (Nat.not_lt_zero i))) ?_
  · exact ⟨by dsimp only; omega, by dsimp only; omega, rfl⟩
  · rintro ⟨d, i⟩ ⟨g1, g2, g3⟩
    dsimp only at g1 g2 g3 ⊢
    have wi : wrap64 (i + 1) = i + 1 := wrap_small (by omega) (by omega)
    have hH : i < l.length → _ := fun h => hb.2 i.toNat (by omega)
    have wm : ∀ n, i < l.length → l[i.toNat]? = some n → HOk n n p ∧ wrap64 (d * clas n p) = d * clas n p ∧ HOk (d * clas n p) (d * clas n p) p := fun n h hn => by
      obtain ⟨h1, h2, h3⟩ := hH h
      rw [getD_of hn, ← g3] at *
      exact ⟨h1, wrap_small (by have := h2.al; omega) (by have := h2.al; omega), h2⟩
    repeat' (first | ((with_reducible refine (?_ : (_ : Bool) = _)); (with_reducible rfl)) | ((with_reducible refine (?_ : (_ : Nat × Nat) = _)); (with_reducible rfl)) | (with_reducible refine leafRI ?_) | (with_reducible refine leafRB ?_) | (with_reducible refine leafI ?_) | (with_reducible refine leafB ?_) | ((with_reducible refine (?_ : (_ : Int) = _)); (with_reducible rfl)) | ((with_reducible refine (?_ : (_ : List (List Value)) = _)); (with_reducible rfl)) | ((with_reducible refine (?_ : (_ : Int) ≠ 0)); (first | assumption | omega | (simp; done) | (simp only [ints_len] at *; omega) | (simp; omega))) | ((with_reducible refine (?_ : (_ : Int) ≤ _)); (first | assumption | omega | (simp; done) | (simp only [ints_len] at *; omega) | (simp; omega))) | ((with_reducible refine (?_ : (_ : Int) < _)); (first | assumption | omega | (simp; done) | (simp only [ints_len] at *; omega) | (simp; omega))) | ((with_reducible refine (?_ : (_ : Nat) ≤ _)); (first | omega | (simp only [List.length_cons, List.length_nil]; omega) | (simp [ints]; done) | (simp; omega))) | ((with_reducible refine (?_ : (_ : Nat) < _)); (first | omega | (simp only [List.length_cons, List.length_nil]; omega) | (simp [ints]; done) | (simp; omega))) | ((with_reducible refine (?_ : (_ : Nat) = _)); (first | (with_reducible rfl) | (simp; done) | (simp only [fr_len]) | (simp only [ints_len]) | omega | (simp [*]; done))) | ((with_reducible refine view_at ?_ ?_); (focus (constructor <;> (first | omega | (simp only [ints_len] at *; omega)))); intro n hn) | (refine And.intro ?_ ?_) | (intro h; first | (exact Bool.noConfusion h) | ((simp only [decide_eq_true_eq, decide_eq_false_iff_not, beq_iff_eq, bne_iff_ne, ne_eq, beq_eq_false_iff_ne, bne_eq_false_iff_eq, Bool.not_eq_true', Bool.not_eq_false', Bool.not_eq_true, Bool.not_eq_false, Int.not_le, Int.not_lt, Bool.and_eq_true, Bool.or_eq_true, Bool.or_eq_false_iff, Bool.and_eq_false_iff] at h); (try (first | (exact Bool.noConfusion h) | (exact (h trivial).elim)))) | skip) | ((refine (?_ : ACall _ _ _ _ _ _ _)); first | ((apply acall (spec_hiClass _ _ ?_)); (focus (repeat' (first | exact rfl | (refine And.intro ?_ ?_) | (simp only [ints_len]; done) | (simp; done) | omega))))) | ((with_reducible refine (?_ : chk _ _ = true)); kernel_rfl) | ((with_reducible refine (?_ : (_ : IntKind) = _)); (with_reducible rfl)) | ((with_reducible refine (?_ : eqC (C.pvw _ _ _) (C.pvw _ _ _))); exact rfl) | ((with_reducible refine (?_ : eqC (C.pv (Value.int IntKind.u64 _)) _)); exact rfl) | exact trivial)
    · obtain ⟨m1, m2, m3⟩ := wm n (by omega) hn
      refine ⟨(_, wrap64 (i + 1)), ?_, ?_, none, And.intro rfl (And.intro (by repeat' (first | exact trivial | exact rfl | (refine And.intro ?_ ?_))) (by repeat' (first | exact trivial | exact rfl | (refine And.intro ?_ ?_))))⟩
      · dsimp only
        rw [wi, show (i + 1).toNat = i.toNat + 1 by omega, prC, m2, g3, getD_of hn]
        exact ⟨by omega, by omega, rfl⟩
      · dsimp only; rw [wi]; omega
    · obtain ⟨m1, m2, m3⟩ := wm _ (by omega) ‹_›
      rw [m2]; exact m3
    · exact (wm _ (by omega) ‹_›).1
    · rw [g3, show i.toNat = l.length by omega]

def rlB (l : List Int) : Bool := (l.any fun a => decide (0 < a)) && (l.any fun a => decide (a < 0))
theorem any_take_step {l : List Int} {i : Nat} {a : Int} {f : Int → Bool} (h : l[i]? = some a) : (l.take (i + 1)).any f = ((l.take i).any f || f a) := by
  rw [List.take_add_one, h, List.any_append]; simp

theorem spec_hiReal (l : List Int) (hl : l.length ≤ 1000000000) : AFun Try.prog 46 [] [Vw l] (Bo (rlB l)) [] [] := by
  have il := ints_len l
  refine afun_intro fn46 rfl rfl (by repeat' (first | exact trivial | (simp; done) | refine ⟨?_, ?_⟩)) ?_
  unfold ac46
  repeat' (first | ((with_reducible refine (?_ : (_ : Bool) = _)); (with_reducible rfl)) | ((with_reducible refine (?_ : (_ : Nat × Nat) = _)); (with_reducible rfl)) | (with_reducible refine leafRI ?_) | (with_reducible refine leafRB ?_) | (with_reducible refine leafI ?_) | (with_reducible refine leafB ?_) | ((with_reducible refine (?_ : (_ : Int) = _)); (with_reducible rfl)) | ((with_reducible refine (?_ : (_ : List (List Value)) = _)); (with_reducible rfl)) | ((with_reducible refine (?_ : (_ : Int) ≠ 0)); (first | assumption | omega | (simp; done) | (simp only [ints_len] at *; omega) | (simp; omega))) | ((with_reducible refine (?_ : (_ : Int) ≤ _)); (first | assumption | omega | (simp; done) | (simp only [ints_len] at *; omega) | (simp; omega))) | ((with_reducible refine (?_ : (_ : Int) < _)); (first | assumption | omega | (simp; done) | (simp only [ints_len] at *; omega) | (simp; omega))) | ((with_reducible refine (?_ : (_ : Nat) ≤ _)); (first | omega | (simp only [List.length_cons, List.length_nil]; omega) | (simp [ints]; done) | (simp; omega))) | ((with_reducible refine (?_ : (_ : Nat) < _)); (first | omega | (simp only [List.length_cons, List.length_nil]; omega) | (simp [ints]; done) | (simp; omega))) | ((with_reducible refine (?_ : (_ : Nat) = _)); (first | (with_reducible rfl) | (simp; done) | (simp only [fr_len]) | (simp only [ints_len]) | omega | (simp [*]; done))) | (refine And.intro ?_ ?_) | (intro h; first | (exact Bool.noConfusion h) | ((simp only [decide_eq_true_eq, decide_eq_false_iff_not, beq_iff_eq, bne_iff_ne, ne_eq, beq_eq_false_iff_ne, bne_eq_false_iff_eq, Bool.not_eq_true', Bool.not_eq_false', Bool.not_eq_true, Bool.not_eq_false, Int.not_le, Int.not_lt, Bool.and_eq_true, Bool.or_eq_true, Bool.or_eq_false_iff, Bool.and_eq_false_iff] at h); (try (first | (exact Bool.noConfusion h) | (exact (h trivial).elim)))) | skip) | ((with_reducible refine (?_ : chk _ _ = true)); kernel_rfl) | ((with_reducible refine (?_ : (_ : IntKind) = _)); (with_reducible rfl)) | ((with_reducible refine (?_ : eqC (C.pvw _ _ _) (C.pvw _ _ _))); exact rfl) | ((with_reducible refine (?_ : eqC (C.pv (Value.int IntKind.u64 _)) _)); exact rfl) | exact trivial)
  refine loop_rule (σ := Bool × Bool × Int) (fun s => [(3, Bo s.1), (4, Bo s.2.1), (9, I s.2.2)]) (fun _ => []) (fun s => 0 ≤ s.2.2 ∧ s.2.2 ≤ l.length ∧ s.1 = ((l.take s.2.2.toNat).any fun a => decide (0 < a)) ∧ s.2.1 = ((l.take s.2.2.toNat).any fun a => decide (a < 0))) (fun s => (l.length - s.2.2).toNat) ((false, false, 0)) ?_ (by repeat' (first | exact trivial | exact rfl | (refine And.intro ?_ ?_))) trivial (fun s => ⟨rfl, rfl⟩) (fun s i h => by first | exact absurd h (Nat.not_lt_zero i) | (cases i with | zero => rfl | succ i => exact absurd (Nat.lt_of_succ_lt_succ h) (Nat.not_lt_zero i))) ?_
  · exact ⟨by dsimp only; omega, by dsimp only; omega, rfl, rfl⟩
  · rintro ⟨b, c, i⟩ ⟨g1, g2, g3, g4⟩
    dsimp only at g1 g2 g3 g4 ⊢
    have wi : wrap64 (i + 1) = i + 1 := wrap_small (by omega) (by omega)
    have hi1 : (i + 1).toNat = i.toNat + 1 := by omega
    repeat' (first | ((with_reducible refine (?_ : (_ : Bool) = _)); (with_reducible rfl)) | ((with_reducible refine (?_ : (_ : Nat × Nat) = _)); (with_reducible rfl)) | (with_reducible refine leafRI ?_) | (with_reducible refine leafRB ?_) | (with_reducible refine leafI ?_) | (with_reducible refine leafB ?_) | ((with_reducible refine (?_ : (_ : Int) = _)); (with_reducible rfl)) | ((with_reducible refine (?_ : (_ : List (List Value)) = _)); (with_reducible rfl)) | ((with_reducible refine (?_ : (_ : Int) ≠ 0)); (first | assumption | omega | (simp; done) | (simp only [ints_len] at *; omega) | (simp; omega))) | ((with_reducible refine (?_ : (_ : Int) ≤ _)); (first | assumption | omega | (simp; done) | (simp only [ints_len] at *; omega) | (simp; omega))) | ((with_reducible refine (?_ : (_ : Int) < _)); (first | assumption | omega | (simp; done) | (simp only [ints_len] at *; omega) | (simp; omega))) | ((with_reducible refine (?_ : (_ : Nat) ≤ _)); (first | omega | (simp only [List.length_cons, List.length_nil]; omega) | (simp [ints]; done) | (simp; omega))) | ((with_reducible refine (?_ : (_ : Nat) < _)); (first | omega | (simp only [List.length_cons, List.length_nil]; omega) | (simp [ints]; done) | (simp; omega))) | ((with_reducible refine (?_ : (_ : Nat) = _)); (first | (with_reducible rfl) | (simp; done) | (simp only [fr_len]) | (simp only [ints_len]) | omega | (simp [*]; done))) | ((with_reducible refine view_at ?_ ?_); (focus (constructor <;> (first | omega | (simp only [ints_len] at *; omega)))); intro n hn) | (refine And.intro ?_ ?_) | (intro h; first | (exact Bool.noConfusion h) | ((simp only [decide_eq_true_eq, decide_eq_false_iff_not, beq_iff_eq, bne_iff_ne, ne_eq, beq_eq_false_iff_ne, bne_eq_false_iff_eq, Bool.not_eq_true', Bool.not_eq_false', Bool.not_eq_true, Bool.not_eq_false, Int.not_le, Int.not_lt, Bool.and_eq_true, Bool.or_eq_true, Bool.or_eq_false_iff, Bool.and_eq_false_iff] at h); (try (first | (exact Bool.noConfusion h) | (exact (h trivial).elim)))) | skip) | ((with_reducible refine (?_ : chk _ _ = true)); kernel_rfl) | ((with_reducible refine (?_ : (_ : IntKind) = _)); (with_reducible rfl)) | ((with_reducible refine (?_ : eqC (C.pvw _ _ _) (C.pvw _ _ _))); exact rfl) | ((with_reducible refine (?_ : eqC (C.pv (Value.int IntKind.u64 _)) _)); exact rfl) | exact trivial)
    · refine ⟨(true, true, wrap64 (i + 1)), ?_, ?_, none, And.intro rfl (And.intro (by repeat' (first | exact trivial | exact rfl | (refine And.intro ?_ ?_))) (by repeat' (first | exact trivial | exact rfl | (refine And.intro ?_ ?_))))⟩
      · dsimp only
        rw [wi, hi1, any_take_step hn, any_take_step hn, ← g3, ← g4, ‹b = true›, ‹c = true›]
        exact ⟨by omega, by omega, by simp, by simp⟩
      · dsimp only; rw [wi]; omega
    · refine ⟨(true, decide (n < 0), wrap64 (i + 1)), ?_, ?_, none, And.intro rfl (And.intro (by repeat' (first | exact trivial | exact rfl | (refine And.intro ?_ ?_))) (by repeat' (first | exact trivial | exact rfl | (refine And.intro ?_ ?_))))⟩
      · dsimp only
        rw [wi, hi1, any_take_step hn, any_take_step hn, ← g3, ← g4, ‹b = true›, ‹c = false›]
        exact ⟨by omega, by omega, by simp, by simp⟩
      · dsimp only; rw [wi]; omega
    · refine ⟨(decide (0 < n), true, wrap64 (i + 1)), ?_, ?_, none, And.intro rfl (And.intro (by repeat' (first | exact trivial | exact rfl | (refine And.intro ?_ ?_))) (by repeat' (first | exact trivial | exact rfl | (refine And.intro ?_ ?_))))⟩
      · dsimp only
        rw [wi, hi1, any_take_step hn, any_take_step hn, ← g3, ← g4, ‹b = false›, ‹c = true›]
        exact ⟨by omega, by omega, by simp, by simp⟩
      · dsimp only; rw [wi]; omega
    · refine ⟨(decide (0 < n), decide (n < 0), wrap64 (i + 1)), ?_, ?_, none, And.intro rfl (And.intro (by repeat' (first | exact trivial | exact rfl | (refine And.intro ?_ ?_))) (by repeat' (first | exact trivial | exact rfl | (refine And.intro ?_ ?_))))⟩
      · dsimp only
        rw [wi, hi1, any_take_step hn, any_take_step hn, ← g3, ← g4, ‹b = false›, ‹c = false›]
        exact ⟨by omega, by omega, by simp, by simp⟩
      · dsimp only; rw [wi]; omega
    · unfold rlB
      rw [show i.toNat = l.length by omega, List.take_length] at g3 g4
      rw [← g3, ← g4, h]; rfl
    · unfold rlB
      rw [show i.toNat = l.length by omega, List.take_length] at g3 g4
      rw [← g3, h]; rfl

theorem rl_no {l : List Int} {b : Int} (hn : ∀ (i : Nat) n, l[i]? = some n → n ≠ 0 ∧ n.natAbs ≤ 1000000) (h : ∀ (j : Nat) a, l[j]? = some a → a.sign = b.sign) : rlB l = false := by
  rw [Bool.eq_false_iff]
  intro hc
  simp only [rlB, Bool.and_eq_true, List.any_eq_true, decide_eq_true_eq] at hc
  obtain ⟨⟨x, x1, x2⟩, ⟨y, y1, y2⟩⟩ := hc
  obtain ⟨i, hi⟩ := List.getElem?_of_mem x1
  obtain ⟨j, hj⟩ := List.getElem?_of_mem y1
  have e1 := h i x hi
  have e2 := h j y hj
  rw [Int.sign_eq_one_of_pos x2] at e1
  rw [Int.sign_eq_neg_one_of_neg y2] at e2
  omega
theorem rl_yes {l : List Int} {i j : Nat} {a b : Int} (hn : ∀ (i : Nat) n, l[i]? = some n → n ≠ 0 ∧ n.natAbs ≤ 1000000) (hi : l[i]? = some a) (hj : l[j]? = some b) (h : ¬ a.sign = b.sign) : rlB l = true := by
  have a0 := (hn i a hi).1
  have b0 := (hn j b hj).1
  simp only [rlB, Bool.and_eq_true, List.any_eq_true, decide_eq_true_eq]
  rcases Int.lt_trichotomy a 0 with ha | ha | ha <;> rcases Int.lt_trichotomy b 0 with hb | hb | hb <;> first | (exact absurd ha a0) | (exact absurd hb b0) | skip
  · rw [Int.sign_eq_neg_one_of_neg ha, Int.sign_eq_neg_one_of_neg hb] at h; exact absurd rfl h
  · exact ⟨⟨b, List.mem_of_getElem? hj, hb⟩, ⟨a, List.mem_of_getElem? hi, ha⟩⟩
  · exact ⟨⟨a, List.mem_of_getElem? hi, ha⟩, ⟨b, List.mem_of_getElem? hj, hb⟩⟩
  · rw [Int.sign_eq_one_of_pos ha, Int.sign_eq_one_of_pos hb] at h; exact absurd rfl h

/-- Isotropic, at 2 or an odd prime, by the class d of the product. -/
noncomputable def isoF (l : List Int) (p d : Int) : Bool := if (l.length : Int) = 1 then false else if (l.length : Int) = 2 then decide (clas (-d) p = 1) else if (l.length : Int) = 3 then decide (hsA l p l.length = hil (-1) (-d) p) else if (l.length : Int) = 4 then (!decide (d = 1) || decide (hsA l p l.length = hil (-1) (-1) p)) else true
noncomputable def iso (l : List Int) (p : Int) : Bool := if p = 0 then rlB l else isoF l p (prC l p l.length)

theorem spec_hiIsotropic (l : List Int) (p : Int) (hd : dgn l = true) (pl : p = 0 ∨ (prime p = true ∧ p ≤ 1000000)) : AFun Try.prog 23 [] [Vw l, I p] (Bo (iso l p)) [] [] := by
  have il := ints_len l
  have hlen := dgn_len hd
  have hb := (prC_bd hd pl l.length (Nat.le_refl _)).1
  have wd : wrap64 (-prC l p l.length) = -prC l p l.length := wrap_small (by omega) (by omega)
  have H1 : HOk (-prC l p l.length) (-prC l p l.length) p := ⟨by omega, by omega, by omega, by omega, pl⟩
  have H2 : HOk (-1) (-prC l p l.length) p := ⟨by omega, by omega, by omega, by omega, pl⟩
  have H3 : HOk (-1) (-1) p := ⟨by omega, by omega, by omega, by omega, pl⟩
  refine afun_intro fn23 rfl rfl (by repeat' (first | exact trivial | (simp; done) | refine ⟨?_, ?_⟩)) ?_
  unfold ac23
  repeat' (first | ((with_reducible refine (?_ : (_ : Bool) = _)); (with_reducible rfl)) | ((with_reducible refine (?_ : (_ : Nat × Nat) = _)); (with_reducible rfl)) | (with_reducible refine leafRI ?_) | (with_reducible refine leafRB ?_) | (with_reducible refine leafI ?_) | (with_reducible refine leafB ?_) | ((with_reducible refine (?_ : (_ : Int) = _)); (with_reducible rfl)) | ((with_reducible refine (?_ : (_ : List (List Value)) = _)); (with_reducible rfl)) | ((with_reducible refine (?_ : (_ : Int) ≠ 0)); (first | assumption | omega | (simp; done) | (simp only [ints_len] at *; omega) | (simp; omega))) | ((with_reducible refine (?_ : (_ : Int) ≤ _)); (first | assumption | omega | (simp; done) | (simp only [ints_len] at *; omega) | (simp; omega))) | ((with_reducible refine (?_ : (_ : Int) < _)); (first | assumption | omega | (simp; done) | (simp only [ints_len] at *; omega) | (simp; omega))) | ((with_reducible refine (?_ : (_ : Nat) ≤ _)); (first | omega | (simp only [List.length_cons, List.length_nil]; omega) | (simp [ints]; done) | (simp; omega))) | ((with_reducible refine (?_ : (_ : Nat) < _)); (first | omega | (simp only [List.length_cons, List.length_nil]; omega) | (simp [ints]; done) | (simp; omega))) | ((with_reducible refine (?_ : (_ : Nat) = _)); (first | (with_reducible rfl) | (simp; done) | (simp only [fr_len]) | (simp only [ints_len]) | omega | (simp [*]; done))) | (refine And.intro ?_ ?_) | (intro h; first | (exact Bool.noConfusion h) | ((simp only [decide_eq_true_eq, decide_eq_false_iff_not, beq_iff_eq, bne_iff_ne, ne_eq, beq_eq_false_iff_ne, bne_eq_false_iff_eq, Bool.not_eq_true', Bool.not_eq_false', Bool.not_eq_true, Bool.not_eq_false, Int.not_le, Int.not_lt, Bool.and_eq_true, Bool.or_eq_true, Bool.or_eq_false_iff, Bool.and_eq_false_iff] at h); (try (first | (exact Bool.noConfusion h) | (exact (h trivial).elim)))) | skip) | ((refine (?_ : ACall _ _ _ _ _ _ _)); first | ((apply acall (spec_hiReal _ ?_)); (focus (repeat' (first | exact rfl | (refine And.intro ?_ ?_) | (simp only [ints_len]; done) | (simp; done) | omega)))) | ((apply acall (spec_hiProduct _ _ ?_ ?_)); (focus (repeat' (first | exact rfl | (refine And.intro ?_ ?_) | (simp only [ints_len]; done) | (simp; done) | omega)))) | ((apply acall (spec_hiClass _ _ ?_)); (focus (repeat' (first | exact rfl | (refine And.intro ?_ ?_) | (simp only [ints_len]; done) | (simp; done) | omega)))) | ((apply acall (spec_hiHasse _ _ ?_ ?_)); (focus (repeat' (first | exact rfl | (refine And.intro ?_ ?_) | (simp only [ints_len]; done) | (simp; done) | omega)))) | ((apply acall (spec_hiSymbol _ _ _ ?_)); (focus (repeat' (first | exact rfl | (refine And.intro ?_ ?_) | (simp only [ints_len]; done) | (simp; done) | omega))))) | ((with_reducible refine (?_ : chk _ _ = true)); kernel_rfl) | ((with_reducible refine (?_ : (_ : IntKind) = _)); (with_reducible rfl)) | ((with_reducible refine (?_ : eqC (C.pvw _ _ _) (C.pvw _ _ _))); exact rfl) | ((with_reducible refine (?_ : eqC (C.pv (Value.int IntKind.u64 _)) _)); exact rfl) | exact trivial)
  all_goals first | assumption | (rw [wd]; assumption) | (rw [il] at *; (try rw [wd]); unfold iso isoF; grind)

theorem impl_isIsotropic (l : List Int) (p : Int) (hd : dgn l = true) (pl : p = 0 ∨ (prime p = true ∧ p ≤ 1000000)) : AFun Try.prog 20 [] [Vw l, I p] (Bo (iso l p)) [] [] := by
  have il := ints_len l
  have hlen := dgn_len hd
  have hnum := dgn_num hd
  by_cases h0 : p = 0
  · subst h0
    refine afun_intro fn20 rfl rfl (by repeat' (first | exact trivial | (simp; done) | refine ⟨?_, ?_⟩)) ?_
    unfold ac20
    repeat' (first | ((with_reducible refine (?_ : (_ : Bool) = _)); (with_reducible rfl)) | ((with_reducible refine (?_ : (_ : Nat × Nat) = _)); (with_reducible rfl)) | (with_reducible refine leafRI ?_) | (with_reducible refine leafRB ?_) | (with_reducible refine leafI ?_) | (with_reducible refine leafB ?_) | ((with_reducible refine (?_ : (_ : Int) = _)); (with_reducible rfl)) | ((with_reducible refine (?_ : (_ : List (List Value)) = _)); (with_reducible rfl)) | ((with_reducible refine (?_ : (_ : Int) ≠ 0)); (first | assumption | omega | (simp; done) | (simp only [ints_len] at *; omega) | (simp; omega))) | ((with_reducible refine (?_ : (_ : Int) ≤ _)); (first | assumption | omega | (simp; done) | (simp only [ints_len] at *; omega) | (simp; omega))) | ((with_reducible refine (?_ : (_ : Int) < _)); (first | assumption | omega | (simp; done) | (simp only [ints_len] at *; omega) | (simp; omega))) | ((with_reducible refine (?_ : (_ : Nat) ≤ _)); (first | omega | (simp only [List.length_cons, List.length_nil]; omega) | (simp [ints]; done) | (simp; omega))) | ((with_reducible refine (?_ : (_ : Nat) < _)); (first | omega | (simp only [List.length_cons, List.length_nil]; omega) | (simp [ints]; done) | (simp; omega))) | ((with_reducible refine (?_ : (_ : Nat) = _)); (first | (with_reducible rfl) | (simp; done) | (simp only [fr_len]) | (simp only [ints_len]) | omega | (simp [*]; done))) | (refine And.intro ?_ ?_) | (intro h; first | (exact Bool.noConfusion h) | ((simp only [decide_eq_true_eq, decide_eq_false_iff_not, beq_iff_eq, bne_iff_ne, ne_eq, beq_eq_false_iff_ne, bne_eq_false_iff_eq, Bool.not_eq_true', Bool.not_eq_false', Bool.not_eq_true, Bool.not_eq_false, Int.not_le, Int.not_lt, Bool.and_eq_true, Bool.or_eq_true, Bool.or_eq_false_iff, Bool.and_eq_false_iff] at h); (try (exfalso; omega))) | skip) | ((with_reducible refine (?_ : chk _ _ = true)); kernel_rfl) | ((with_reducible refine (?_ : (_ : IntKind) = _)); (with_reducible rfl)) | ((with_reducible refine (?_ : eqC (C.pvw _ _ _) (C.pvw _ _ _))); exact rfl) | ((with_reducible refine (?_ : eqC (C.pv (Value.int IntKind.u64 _)) _)); exact rfl) | exact trivial)
    refine loop_rule (σ := Int) (fun s => [(14, I s)]) (fun _ => []) (fun s => 0 ≤ s ∧ s ≤ l.length ∧ ∀ (j : Nat) a, j < s.toNat → l[j]? = some a → a.sign = (l.getD 0 0).sign) (fun s => (l.length - s).toNat) (0) ?_ (by repeat' (first | exact trivial | exact rfl | (refine And.intro ?_ ?_))) trivial (fun s => ⟨rfl, rfl⟩) (fun s i h => by first | exact absurd h (Nat.not_lt_zero i) | (cases i with | zero => rfl | succ i => exact absurd (Nat.lt_of_succ_lt_succ h) (Nat.not_lt_zero i))) ?_
    · exact ⟨by omega, by omega, fun j a h => by omega⟩
    · rintro i ⟨g1, g2, g3⟩
      have wi : wrap64 (i + 1) = i + 1 := wrap_small (by omega) (by omega)
      repeat' (first | ((with_reducible refine (?_ : (_ : Bool) = _)); (with_reducible rfl)) | ((with_reducible refine (?_ : (_ : Nat × Nat) = _)); (with_reducible rfl)) | (with_reducible refine leafRI ?_) | (with_reducible refine leafRB ?_) | (with_reducible refine leafI ?_) | (with_reducible refine leafB ?_) | ((with_reducible refine (?_ : (_ : Int) = _)); (with_reducible rfl)) | ((with_reducible refine (?_ : (_ : List (List Value)) = _)); (with_reducible rfl)) | ((with_reducible refine (?_ : (_ : Int) ≠ 0)); (first | assumption | omega | (simp; done) | (simp only [ints_len] at *; omega) | (simp; omega))) | ((with_reducible refine (?_ : (_ : Int) ≤ _)); (first | assumption | omega | (simp; done) | (simp only [ints_len] at *; omega) | (simp; omega))) | ((with_reducible refine (?_ : (_ : Int) < _)); (first | assumption | omega | (simp; done) | (simp only [ints_len] at *; omega) | (simp; omega))) | ((with_reducible refine (?_ : (_ : Nat) ≤ _)); (first | omega | (simp only [List.length_cons, List.length_nil]; omega) | (simp [ints]; done) | (simp; omega))) | ((with_reducible refine (?_ : (_ : Nat) < _)); (first | omega | (simp only [List.length_cons, List.length_nil]; omega) | (simp [ints]; done) | (simp; omega))) | ((with_reducible refine (?_ : (_ : Nat) = _)); (first | (with_reducible rfl) | (simp; done) | (simp only [fr_len]) | (simp only [ints_len]) | omega | (simp [*]; done))) | ((with_reducible refine view_at ?_ ?_); (focus (constructor <;> (first | omega | (simp only [ints_len] at *; omega)))); intro n hn) | (refine And.intro ?_ ?_) | (intro h; first | (exact Bool.noConfusion h) | ((simp only [decide_eq_true_eq, decide_eq_false_iff_not, beq_iff_eq, bne_iff_ne, ne_eq, beq_eq_false_iff_ne, bne_eq_false_iff_eq, Bool.not_eq_true', Bool.not_eq_false', Bool.not_eq_true, Bool.not_eq_false, Int.not_le, Int.not_lt, Bool.and_eq_true, Bool.or_eq_true, Bool.or_eq_false_iff, Bool.and_eq_false_iff] at h); (try (first | (exact Bool.noConfusion h) | (exact (h trivial).elim)))) | skip) | ((refine (?_ : ACall _ _ _ _ _ _ _)); first | ((apply acall (impl_sign _)); (focus (repeat' (first | exact rfl | (refine And.intro ?_ ?_) | (simp only [ints_len]; done) | (simp; done) | omega))))) | ((with_reducible refine (?_ : chk _ _ = true)); kernel_rfl) | ((with_reducible refine (?_ : (_ : IntKind) = _)); (with_reducible rfl)) | ((with_reducible refine (?_ : eqC (C.pvw _ _ _) (C.pvw _ _ _))); exact rfl) | ((with_reducible refine (?_ : eqC (C.pv (Value.int IntKind.u64 _)) _)); exact rfl) | exact trivial)
      · rename_i a ha
        have hr := rl_yes (l := l) hnum ha hn h
        exact hr.symm
      · rename_i a ha
        have h00 : l.getD 0 0 = n := getD_of (by simpa using hn)
        refine ⟨(wrap64 (i + 1)), ?_, ?_, none, And.intro rfl (And.intro (by repeat' (first | exact trivial | exact rfl | (refine And.intro ?_ ?_))) (by repeat' (first | exact trivial | exact rfl | (refine And.intro ?_ ?_))))⟩
        · rw [wi]
          refine ⟨by omega, by omega, fun j b hj hb => ?_⟩
          by_cases e : j = i.toNat
          · subst e
            rw [ha] at hb
            obtain rfl := Option.some.inj hb
            rw [h00]; exact h
          · exact g3 j b (by omega) hb
        · rw [wi]; omega
      · exact (rl_no (b := l.getD 0 0) hnum fun j a ha => g3 j a (by have := (List.getElem?_eq_some_iff.1 ha).1; omega) ha).symm
  · have hb := prC_bd hd pl l.length (Nat.le_refl _)
    refine afun_intro fn20 rfl rfl (by repeat' (first | exact trivial | (simp; done) | refine ⟨?_, ?_⟩)) ?_
    unfold ac20
    repeat' (first | ((with_reducible refine (?_ : (_ : Bool) = _)); (with_reducible rfl)) | ((with_reducible refine (?_ : (_ : Nat × Nat) = _)); (with_reducible rfl)) | (with_reducible refine leafRI ?_) | (with_reducible refine leafRB ?_) | (with_reducible refine leafI ?_) | (with_reducible refine leafB ?_) | ((with_reducible refine (?_ : (_ : Int) = _)); (with_reducible rfl)) | ((with_reducible refine (?_ : (_ : List (List Value)) = _)); (with_reducible rfl)) | ((with_reducible refine (?_ : (_ : Int) ≠ 0)); (first | assumption | omega | (simp; done) | (simp only [ints_len] at *; omega) | (simp; omega))) | ((with_reducible refine (?_ : (_ : Int) ≤ _)); (first | assumption | omega | (simp; done) | (simp only [ints_len] at *; omega) | (simp; omega))) | ((with_reducible refine (?_ : (_ : Int) < _)); (first | assumption | omega | (simp; done) | (simp only [ints_len] at *; omega) | (simp; omega))) | ((with_reducible refine (?_ : (_ : Nat) ≤ _)); (first | omega | (simp only [List.length_cons, List.length_nil]; omega) | (simp [ints]; done) | (simp; omega))) | ((with_reducible refine (?_ : (_ : Nat) < _)); (first | omega | (simp only [List.length_cons, List.length_nil]; omega) | (simp [ints]; done) | (simp; omega))) | ((with_reducible refine (?_ : (_ : Nat) = _)); (first | (with_reducible rfl) | (simp; done) | (simp only [fr_len]) | (simp only [ints_len]) | omega | (simp [*]; done))) | (refine And.intro ?_ ?_) | (intro h; first | (exact Bool.noConfusion h) | ((simp only [decide_eq_true_eq, decide_eq_false_iff_not, beq_iff_eq, bne_iff_ne, ne_eq, beq_eq_false_iff_ne, bne_eq_false_iff_eq, Bool.not_eq_true', Bool.not_eq_false', Bool.not_eq_true, Bool.not_eq_false, Int.not_le, Int.not_lt, Bool.and_eq_true, Bool.or_eq_true, Bool.or_eq_false_iff, Bool.and_eq_false_iff] at h); (try (exfalso; omega))) | skip) | ((with_reducible refine (?_ : chk _ _ = true)); kernel_rfl) | ((with_reducible refine (?_ : (_ : IntKind) = _)); (with_reducible rfl)) | ((with_reducible refine (?_ : eqC (C.pvw _ _ _) (C.pvw _ _ _))); exact rfl) | ((with_reducible refine (?_ : eqC (C.pv (Value.int IntKind.u64 _)) _)); exact rfl) | exact trivial)
    refine loop_rule (σ := Int × Int) (fun s => [(7, I s.1), (28, I s.2)]) (fun _ => []) (fun s => 0 ≤ s.2 ∧ s.2 ≤ l.length ∧ s.1 = prC l p s.2.toNat) (fun s => (l.length - s.2).toNat) ((1, 0)) ?_ (by repeat' (first | exact trivial | exact rfl | (refine And.intro ?_ ?_))) trivial (fun s => ⟨rfl, rfl⟩) (fun s i h => by first | exact absurd h (Nat.not_lt_zero i) | (cases i with | zero => rfl | succ i => exact absurd (Nat.lt_of_succ_lt_succ h) (Nat.not_lt_zero i))) ?_
    · exact ⟨by dsimp only; omega, by dsimp only; omega, rfl⟩
    · rintro ⟨d, i⟩ ⟨g1, g2, g3⟩
      dsimp only at g1 g2 g3 ⊢
      have wi : wrap64 (i + 1) = i + 1 := wrap_small (by omega) (by omega)
      have hH : i < l.length → _ := fun h => hb.2 i.toNat (by omega)
      have wm : ∀ n, i < l.length → l[i.toNat]? = some n → HOk n n p ∧ wrap64 (d * clas n p) = d * clas n p ∧ HOk (d * clas n p) (d * clas n p) p := fun n h hn => by
        obtain ⟨h1, h2, h3⟩ := hH h
        rw [getD_of hn, ← g3] at *
        exact ⟨h1, wrap_small (by have := h2.al; omega) (by have := h2.al; omega), h2⟩
      by_cases hi : i < l.length
      · repeat' (first | ((with_reducible refine (?_ : (_ : Bool) = _)); (with_reducible rfl)) | ((with_reducible refine (?_ : (_ : Nat × Nat) = _)); (with_reducible rfl)) | (with_reducible refine leafRI ?_) | (with_reducible refine leafRB ?_) | (with_reducible refine leafI ?_) | (with_reducible refine leafB ?_) | ((with_reducible refine (?_ : (_ : Int) = _)); (with_reducible rfl)) | ((with_reducible refine (?_ : (_ : List (List Value)) = _)); (with_reducible rfl)) | ((with_reducible refine (?_ : (_ : Int) ≠ 0)); (first | assumption | omega | (simp; done) | (simp only [ints_len] at *; omega) | (simp; omega))) | ((with_reducible refine (?_ : (_ : Int) ≤ _)); (first | assumption | omega | (simp; done) | (simp only [ints_len] at *; omega) | (simp; omega))) | ((with_reducible refine (?_ : (_ : Int) < _)); (first | assumption | omega | (simp; done) | (simp only [ints_len] at *; omega) | (simp; omega))) | ((with_reducible refine (?_ : (_ : Nat) ≤ _)); (first | omega | (simp only [List.length_cons, List.length_nil]; omega) | (simp [ints]; done) | (simp; omega))) | ((with_reducible refine (?_ : (_ : Nat) < _)); (first | omega | (simp only [List.length_cons, List.length_nil]; omega) | (simp [ints]; done) | (simp; omega))) | ((with_reducible refine (?_ : (_ : Nat) = _)); (first | (with_reducible rfl) | (simp; done) | (simp only [fr_len]) | (simp only [ints_len]) | omega | (simp [*]; done))) | ((with_reducible refine view_at ?_ ?_); (focus (constructor <;> (first | omega | (simp only [ints_len] at *; omega)))); intro n hn) | (refine And.intro ?_ ?_) | (intro h; first | (exact Bool.noConfusion h) | ((simp only [decide_eq_true_eq, decide_eq_false_iff_not, beq_iff_eq, bne_iff_ne, ne_eq, beq_eq_false_iff_ne, bne_eq_false_iff_eq, Bool.not_eq_true', Bool.not_eq_false', Bool.not_eq_true, Bool.not_eq_false, Int.not_le, Int.not_lt, Bool.and_eq_true, Bool.or_eq_true, Bool.or_eq_false_iff, Bool.and_eq_false_iff] at h); (try (exfalso; omega))) | skip) | ((refine (?_ : ACall _ _ _ _ _ _ _)); first | ((apply acall (impl_localClass _ _ ?_)); (focus (repeat' (first | exact rfl | (refine And.intro ?_ ?_) | (simp only [ints_len]; done) | (simp; done) | omega))))) | ((with_reducible refine (?_ : chk _ _ = true)); kernel_rfl) | ((with_reducible refine (?_ : (_ : IntKind) = _)); (with_reducible rfl)) | ((with_reducible refine (?_ : eqC (C.pvw _ _ _) (C.pvw _ _ _))); exact rfl) | ((with_reducible refine (?_ : eqC (C.pv (Value.int IntKind.u64 _)) _)); exact rfl) | exact trivial)
        · obtain ⟨m1, m2, m3⟩ := wm n (by omega) hn
          refine ⟨(_, wrap64 (i + 1)), ?_, ?_, none, And.intro rfl (And.intro (by repeat' (first | exact trivial | exact rfl | (refine And.intro ?_ ?_))) (by repeat' (first | exact trivial | exact rfl | (refine And.intro ?_ ?_))))⟩
          · dsimp only
            rw [wi, show (i + 1).toNat = i.toNat + 1 by omega, prC, m2, g3, getD_of hn]
            exact ⟨by omega, by omega, rfl⟩
          · dsimp only; rw [wi]; omega
        · obtain ⟨m1, m2, m3⟩ := wm _ (by omega) ‹_›
          rw [m2]; exact m3
        · exact (wm _ (by omega) ‹_›).1
      · have hd' : d = prC l p l.length := by rw [g3, show i.toNat = l.length by omega]
        have hb1 := hb.1
        rw [← hd'] at hb1
        clear g3 wm hH hb
        have wd : wrap64 (-d) = -d := wrap_small (by omega) (by omega)
        have w1 : wrap64 (-1) = -1 := wrap_small (by omega) (by omega)
        have H1 : HOk (-d) (-d) p := ⟨by omega, by omega, by omega, by omega, pl⟩
        have H2 : HOk (-1) (-d) p := ⟨by omega, by omega, by omega, by omega, pl⟩
        have H3 : HOk (-1) (-1) p := ⟨by omega, by omega, by omega, by omega, pl⟩
        have hiso : iso l p = isoF l p d := by unfold iso; rw [if_neg h0, hd']
        rw [hiso]
        repeat' (first | ((with_reducible refine (?_ : (_ : Bool) = _)); (with_reducible rfl)) | ((with_reducible refine (?_ : (_ : Nat × Nat) = _)); (with_reducible rfl)) | (with_reducible refine leafRI ?_) | (with_reducible refine leafRB ?_) | (with_reducible refine leafI ?_) | (with_reducible refine leafB ?_) | ((with_reducible refine (?_ : (_ : Int) = _)); (with_reducible rfl)) | ((with_reducible refine (?_ : (_ : List (List Value)) = _)); (with_reducible rfl)) | ((with_reducible refine (?_ : (_ : Int) ≠ 0)); (first | assumption | omega | (simp; done) | (simp only [ints_len] at *; omega) | (simp; omega))) | ((with_reducible refine (?_ : (_ : Int) ≤ _)); (first | assumption | omega | (simp; done) | (simp only [ints_len] at *; omega) | (simp; omega))) | ((with_reducible refine (?_ : (_ : Int) < _)); (first | assumption | omega | (simp; done) | (simp only [ints_len] at *; omega) | (simp; omega))) | ((with_reducible refine (?_ : (_ : Nat) ≤ _)); (first | omega | (simp only [List.length_cons, List.length_nil]; omega) | (simp [ints]; done) | (simp; omega))) | ((with_reducible refine (?_ : (_ : Nat) < _)); (first | omega | (simp only [List.length_cons, List.length_nil]; omega) | (simp [ints]; done) | (simp; omega))) | ((with_reducible refine (?_ : (_ : Nat) = _)); (first | (with_reducible rfl) | (simp; done) | (simp only [fr_len]) | (simp only [ints_len]) | omega | (simp [*]; done))) | (refine And.intro ?_ ?_) | (intro h; first | (exact Bool.noConfusion h) | ((simp only [decide_eq_true_eq, decide_eq_false_iff_not, beq_iff_eq, bne_iff_ne, ne_eq, beq_eq_false_iff_ne, bne_eq_false_iff_eq, Bool.not_eq_true', Bool.not_eq_false', Bool.not_eq_true, Bool.not_eq_false, Int.not_le, Int.not_lt, Bool.and_eq_true, Bool.or_eq_true, Bool.or_eq_false_iff, Bool.and_eq_false_iff] at h); (try (exfalso; omega))) | skip) | ((refine (?_ : ACall _ _ _ _ _ _ _)); first | ((apply acall (impl_localClass _ _ ?_)); (focus (repeat' (first | exact rfl | (refine And.intro ?_ ?_) | (simp only [ints_len]; done) | (simp; done) | omega)))) | ((apply acall (impl_hasse _ _ ?_ ?_)); (focus (repeat' (first | exact rfl | (refine And.intro ?_ ?_) | (simp only [ints_len]; done) | (simp; done) | omega)))) | ((apply acall (impl_hilbert _ _ _ ?_)); (focus (repeat' (first | exact rfl | (refine And.intro ?_ ?_) | (simp only [ints_len]; done) | (simp; done) | omega))))) | ((with_reducible refine (?_ : chk _ _ = true)); kernel_rfl) | ((with_reducible refine (?_ : (_ : IntKind) = _)); (with_reducible rfl)) | ((with_reducible refine (?_ : eqC (C.pvw _ _ _) (C.pvw _ _ _))); exact rfl) | ((with_reducible refine (?_ : eqC (C.pv (Value.int IntKind.u64 _)) _)); exact rfl) | exact trivial)
        all_goals first | assumption | (rw [wd]; assumption) | (rw [il] at *; (try rw [wd]); unfold isoF; grind)

noncomputable def isV (l : List Int) (p : Int) : Bool := if haG l p then iso l p else false

theorem spec_IsIsotropic (l : List Int) (p : Int) (hl : l.length ≤ 1000000000) : AFun Try.prog 7 [] [Vw l, I p] (PBB (isV l p) (haG l p)) [] [] := by
  refine afun_intro fn7 rfl rfl (by repeat' (first | exact trivial | (simp; done) | refine ⟨?_, ?_⟩)) ?_
  unfold ac7
  repeat' (first | ((with_reducible refine (?_ : (_ : Bool) = _)); (with_reducible rfl)) | ((with_reducible refine (?_ : (_ : Nat × Nat) = _)); (with_reducible rfl)) | (with_reducible refine leafRI ?_) | (with_reducible refine leafRB ?_) | (with_reducible refine leafI ?_) | (with_reducible refine leafB ?_) | ((with_reducible refine (?_ : (_ : Int) = _)); (with_reducible rfl)) | ((with_reducible refine (?_ : (_ : List (List Value)) = _)); (with_reducible rfl)) | ((with_reducible refine (?_ : (_ : Int) ≠ 0)); (first | assumption | omega | (simp; done) | (simp only [ints_len] at *; omega) | (simp; omega))) | ((with_reducible refine (?_ : (_ : Int) ≤ _)); (first | assumption | omega | (simp; done) | (simp only [ints_len] at *; omega) | (simp; omega))) | ((with_reducible refine (?_ : (_ : Int) < _)); (first | assumption | omega | (simp; done) | (simp only [ints_len] at *; omega) | (simp; omega))) | ((with_reducible refine (?_ : (_ : Nat) ≤ _)); (first | omega | (simp only [List.length_cons, List.length_nil]; omega) | (simp [ints]; done) | (simp; omega))) | ((with_reducible refine (?_ : (_ : Nat) < _)); (first | omega | (simp only [List.length_cons, List.length_nil]; omega) | (simp [ints]; done) | (simp; omega))) | ((with_reducible refine (?_ : (_ : Nat) = _)); (first | (with_reducible rfl) | (simp; done) | (simp only [fr_len]) | (simp only [ints_len]) | omega | (simp [*]; done))) | (refine And.intro ?_ ?_) | (intro h; first | (exact Bool.noConfusion h) | ((simp only [decide_eq_true_eq, decide_eq_false_iff_not, beq_iff_eq, bne_iff_ne, ne_eq, beq_eq_false_iff_ne, bne_eq_false_iff_eq, Bool.not_eq_true', Bool.not_eq_false', Bool.not_eq_true, Bool.not_eq_false, Int.not_le, Int.not_lt, Bool.and_eq_true, Bool.or_eq_true, Bool.or_eq_false_iff, Bool.and_eq_false_iff] at h); (try (first | (exact Bool.noConfusion h) | (exact (h trivial).elim)))) | skip) | ((refine (?_ : ACall _ _ _ _ _ _ _)); first | ((apply acall (spec_hiDiagonal _ ?_)); (focus (repeat' (first | exact rfl | (refine And.intro ?_ ?_) | (simp only [ints_len]; done) | (simp; done) | omega)))) | ((apply acall (spec_hiPlace _)); (focus (repeat' (first | exact rfl | (refine And.intro ?_ ?_) | (simp only [ints_len]; done) | (simp; done) | omega)))) | ((apply acall (spec_hiIsotropic _ _ ?_ ?_)); (focus (repeat' (first | exact rfl | (refine And.intro ?_ ?_) | (simp only [ints_len]; done) | (simp; done) | omega))))) | ((with_reducible refine (?_ : chk _ _ = true)); kernel_rfl) | ((with_reducible refine (?_ : (_ : IntKind) = _)); (with_reducible rfl)) | ((with_reducible refine (?_ : eqC (C.pvw _ _ _) (C.pvw _ _ _))); exact rfl) | ((with_reducible refine (?_ : eqC (C.pv (Value.int IntKind.u64 _)) _)); exact rfl) | exact trivial)
  all_goals first
    | assumption
    | (have hG : haG l p = true := by (unfold haG plc; grind)
       first | (exact plc_ok (by unfold haG at hG; grind)) | exact hG.symm | (rw [isV, if_pos hG]; done))
    | (have hG : haG l p = false := by (unfold haG plc; grind)
       first | exact hG.symm | (rw [isV, hG]; rfl))

theorem impl_IsIsotropic (l : List Int) (p : Int) (hl : l.length ≤ 1000000000) : AFun Try.prog 6 [] [Vw l, I p] (PBB (isV l p) (haG l p)) [] [] := by
  refine afun_intro fn6 rfl rfl (by repeat' (first | exact trivial | (simp; done) | refine ⟨?_, ?_⟩)) ?_
  unfold ac6
  repeat' (first | ((with_reducible refine (?_ : (_ : Bool) = _)); (with_reducible rfl)) | ((with_reducible refine (?_ : (_ : Nat × Nat) = _)); (with_reducible rfl)) | (with_reducible refine leafRI ?_) | (with_reducible refine leafRB ?_) | (with_reducible refine leafI ?_) | (with_reducible refine leafB ?_) | ((with_reducible refine (?_ : (_ : Int) = _)); (with_reducible rfl)) | ((with_reducible refine (?_ : (_ : List (List Value)) = _)); (with_reducible rfl)) | ((with_reducible refine (?_ : (_ : Int) ≠ 0)); (first | assumption | omega | (simp; done) | (simp only [ints_len] at *; omega) | (simp; omega))) | ((with_reducible refine (?_ : (_ : Int) ≤ _)); (first | assumption | omega | (simp; done) | (simp only [ints_len] at *; omega) | (simp; omega))) | ((with_reducible refine (?_ : (_ : Int) < _)); (first | assumption | omega | (simp; done) | (simp only [ints_len] at *; omega) | (simp; omega))) | ((with_reducible refine (?_ : (_ : Nat) ≤ _)); (first | omega | (simp only [List.length_cons, List.length_nil]; omega) | (simp [ints]; done) | (simp; omega))) | ((with_reducible refine (?_ : (_ : Nat) < _)); (first | omega | (simp only [List.length_cons, List.length_nil]; omega) | (simp [ints]; done) | (simp; omega))) | ((with_reducible refine (?_ : (_ : Nat) = _)); (first | (with_reducible rfl) | (simp; done) | (simp only [fr_len]) | (simp only [ints_len]) | omega | (simp [*]; done))) | (refine And.intro ?_ ?_) | (intro h; first | (exact Bool.noConfusion h) | ((simp only [decide_eq_true_eq, decide_eq_false_iff_not, beq_iff_eq, bne_iff_ne, ne_eq, beq_eq_false_iff_ne, bne_eq_false_iff_eq, Bool.not_eq_true', Bool.not_eq_false', Bool.not_eq_true, Bool.not_eq_false, Int.not_le, Int.not_lt, Bool.and_eq_true, Bool.or_eq_true, Bool.or_eq_false_iff, Bool.and_eq_false_iff] at h); (try (first | (exact Bool.noConfusion h) | (exact (h trivial).elim)))) | skip) | ((refine (?_ : ACall _ _ _ _ _ _ _)); first | ((apply acall (impl_isDiagonal _ ?_)); (focus (repeat' (first | exact rfl | (refine And.intro ?_ ?_) | (simp only [ints_len]; done) | (simp; done) | omega)))) | ((apply acall (impl_isPlace _)); (focus (repeat' (first | exact rfl | (refine And.intro ?_ ?_) | (simp only [ints_len]; done) | (simp; done) | omega)))) | ((apply acall (impl_isIsotropic _ _ ?_ ?_)); (focus (repeat' (first | exact rfl | (refine And.intro ?_ ?_) | (simp only [ints_len]; done) | (simp; done) | omega))))) | ((with_reducible refine (?_ : chk _ _ = true)); kernel_rfl) | ((with_reducible refine (?_ : (_ : IntKind) = _)); (with_reducible rfl)) | ((with_reducible refine (?_ : eqC (C.pvw _ _ _) (C.pvw _ _ _))); exact rfl) | ((with_reducible refine (?_ : eqC (C.pv (Value.int IntKind.u64 _)) _)); exact rfl) | exact trivial)
  all_goals first
    | assumption
    | (have hG : haG l p = true := by (unfold haG plc; grind)
       first | (exact plc_ok (by unfold haG at hG; grind)) | exact hG.symm | (rw [isV, if_pos hG]; done))
    | (have hG : haG l p = false := by (unfold haG plc; grind)
       first | exact hG.symm | (rw [isV, hG]; rfl))

end Go.Proofs.Ytfcndlagnhaafaa
