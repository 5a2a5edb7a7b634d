/- Words and matrices: WordMatrix, MatrixWord, NormalWord. -/
import Derived.Test.YthdfladfokccdaaG3
namespace Go.Proofs.Ythdfladfokccdaa
open Go.RowKit
set_option linter.unusedSimpArgs false
set_option linter.unusedVariables false
set_option maxRecDepth 100000
set_option maxHeartbeats 2000000

/-! the matrix of a word -/
/-- One letter more (after the first: behind a swap). -/
def wmStep (first : Bool) (m : T4) (e : Int) : T4 := if first then mulT m (1, e, 0, 1) else mulT (mulT m (0, -1, 1, 0)) (1, e, 0, 1)
def wmL : Bool → T4 → List Int → Option T4
  | _, m, [] => some m
  | f, m, e :: r => if numT (wmStep f m e) then wmL false (wmStep f m e) r else none
theorem wmL_step {f : Bool} {m : T4} {l : List Int} {i : Nat} {e : Int} (h : l[i]? = some e) : wmL f m (l.drop i) = if numT (wmStep f m e) then wmL false (wmStep f m e) (l.drop (i + 1)) else none := by
  obtain ⟨h1, h2⟩ := List.getElem?_eq_some_iff.1 h
  rw [List.drop_eq_getElem_cons h1, h2, wmL]
def negT (m : T4) : T4 := (wrap64 (-m.1), wrap64 (-m.2.1), wrap64 (-m.2.2.1), wrap64 (-m.2.2.2))
/-- The step, in integers. -/
def stepZ (first : Bool) (m : T4) (e : Int) : T4 := if first then (m.1, m.1 * e + m.2.1, m.2.2.1, m.2.2.1 * e + m.2.2.2) else (m.2.1, m.2.1 * e - m.1, m.2.2.2, m.2.2.2 * e - m.2.2.1)
theorem numT_iff {m : T4} : numT m = true ↔ ((-1000000 ≤ m.1 ∧ m.1 ≤ 1000000) ∧ (-1000000 ≤ m.2.1 ∧ m.2.1 ≤ 1000000) ∧ (-1000000 ≤ m.2.2.1 ∧ m.2.2.1 ≤ 1000000) ∧ (-1000000 ≤ m.2.2.2 ∧ m.2.2.2 ≤ 1000000)) := by
  simp [numT, num]; omega
theorem wmStep_eq {f : Bool} {m : T4} {e : Int} (hm : numT m = true) (h1 : -1000000 ≤ e) (h2 : e ≤ 1000000) : wmStep f m e = stepZ f m e := by
  obtain ⟨p, q, r, s⟩ := m
  have h := numT_iff.1 hm
  dsimp only at h
  have b1 := mul_bd (a := p) (b := e) (A := 1000000) (B := 1000000) (by omega) (by omega) h1 h2
  have b2 := mul_bd (a := q) (b := e) (A := 1000000) (B := 1000000) (by omega) (by omega) h1 h2
  have b3 := mul_bd (a := r) (b := e) (A := 1000000) (B := 1000000) (by omega) (by omega) h1 h2
  have b4 := mul_bd (a := s) (b := e) (A := 1000000) (B := 1000000) (by omega) (by omega) h1 h2
  cases f with
  | true =>
    simp only [wmStep, stepZ, mulT, mu, if_true, Int.mul_one, Int.mul_zero]
    simp (disch := omega) only [wrap_small, Int.zero_add, Int.add_zero]
  | false =>
    simp only [wmStep, stepZ, mulT, mu, Bool.false_eq_true, if_false, Int.mul_one, Int.mul_zero, Int.mul_neg]
    simp (disch := omega) only [wrap_small, Int.zero_add, Int.add_zero]
    simp only [Prod.mk.injEq, true_and]
    try omega
def detZ (m : T4) : Int := m.1 * m.2.2.2 - m.2.1 * m.2.2.1
theorem stepZ_det (f : Bool) (m : T4) (e : Int) : detZ (stepZ f m e) = detZ m := by
  obtain ⟨p, q, r, s⟩ := m
  cases f <;> simp [stepZ, detZ] <;> grind
theorem stepZ_neg (f : Bool) (m : T4) (e : Int) : stepZ f (-m.1, -m.2.1, -m.2.2.1, -m.2.2.2) e = (-(stepZ f m e).1, -(stepZ f m e).2.1, -(stepZ f m e).2.2.1, -(stepZ f m e).2.2.2) := by
  obtain ⟨p, q, r, s⟩ := m
  cases f <;> simp [stepZ] <;> grind
theorem negT_eq {m : T4} (h : numT m = true) : negT m = (-m.1, -m.2.1, -m.2.2.1, -m.2.2.2) := by
  have := numT_iff.1 h
  simp only [negT]
  rw [wrap_small (by omega) (by omega), wrap_small (by omega) (by omega), wrap_small (by omega) (by omega), wrap_small (by omega) (by omega)]
theorem numT_neg {a b c d : Int} : numT (-a, -b, -c, -d) = numT (a, b, c, d) := by
  rw [Bool.eq_iff_iff, numT_iff, numT_iff]; dsimp only; omega
theorem wmL_neg : ∀ (l : List Int) (f : Bool) (m : T4), numT m = true → l.all num = true → wmL f (negT m) l = (wmL f m l).map negT
  | [], f, m, hm, hl => rfl
  | e :: r, f, m, hm, hl => by
    simp only [List.all_cons, Bool.and_eq_true] at hl
    have he := num_iff.1 hl.1
    have hn : numT (negT m) = true := by rw [negT_eq hm, numT_neg]; exact hm
    have e1 : wmStep f (negT m) e = (-(wmStep f m e).1, -(wmStep f m e).2.1, -(wmStep f m e).2.2.1, -(wmStep f m e).2.2.2) := by
      rw [wmStep_eq hn he.1 he.2, wmStep_eq hm he.1 he.2, negT_eq hm, stepZ_neg]
    simp only [wmL]
    rw [e1, numT_neg]
    cases hs : numT (wmStep f m e) with
    | false => rfl
    | true =>
      rw [if_pos rfl, if_pos rfl, ← negT_eq hs]
      exact wmL_neg r false _ hs hl.2
theorem wmL_prp : ∀ (l : List Int) (f : Bool) (m m' : T4), numT m = true → detZ m = 1 → l.all num = true → wmL f m l = some m' → numT m' = true ∧ detZ m' = 1
  | [], f, m, m', hm, hd, _, h => by cases h; exact ⟨hm, hd⟩
  | e :: r, f, m, m', hm, hd, hl, h => by
    simp only [List.all_cons, Bool.and_eq_true] at hl
    have he := num_iff.1 hl.1
    simp only [wmL] at h
    split at h
    · rename_i hs
      exact wmL_prp r false _ m' hs (by rw [wmStep_eq hm he.1 he.2, stepZ_det]; exact hd) hl.2 h
    · cases h
/-- The matrix of a word. -/
def wmO (g : Int) (l : List Int) : Option T4 := if wrd g l then wmL true (g, 0, 0, g) l else none
def wmM (g : Int) (l : List Int) : T4 := (wmO g l).getD (0, 0, 0, 0)

theorem spec_moMatrix (g : Int) (l : List Int) (_lg : -9223372036854775808 ≤ g) (_ug : g ≤ 9223372036854775807) (h : wrd g l = true) : AFun Try.prog 72 [] [Wo g l] (PM (wmM g l) (wmO g l).isSome) [] [] := by
  have il := ints_len l
  have hw := wrd_len h
  have hO : wmO g l = wmL true (g, 0, 0, g) l := by rw [wmO, if_pos h]
  refine afun_intro fn72 (by simp) rfl (by repeat' (first | exact trivial | (simp; done) | refine ⟨?_, ?_⟩)) ?_
  unfold ac72
  refine loop_rule (σ := Bool × T4 × Int) (fun s => [(15, I s.2.2)]) (fun s => [((1, 0), .bx [cI g, .view 1 (ints l)]), ((2, 0), .bx [cI 0, cI 0, cI 0, cI 0]), ((4, 0), .bx [cI s.2.1.1, cI s.2.1.2.1, cI s.2.1.2.2.1, cI s.2.1.2.2.2])]) (fun s => 0 ≤ s.2.2 ∧ s.2.2 ≤ l.length ∧ s.1 = decide (s.2.2 = 0) ∧ wmO g l = wmL s.1 s.2.1 (l.drop s.2.2.toNat)) (fun s => (l.length - s.2.2).toNat) ((true, (g, 0, 0, g), 0)) ?_ (by repeat' (first | exact trivial | exact rfl | (refine And.intro ?_ ?_))) (by repeat' (first | exact trivial | exact rfl | (refine And.intro ?_ ?_))) (fun s => ⟨rfl, rfl⟩) (fun s i h => by first | exact absurd h (Nat.not_lt_zero i) | (cases i with | zero => rfl | succ i => exact absurd (Nat.lt_of_succ_lt_succ h) (Nat.not_lt_zero i))) ?_
  · exact ⟨by dsimp only; omega, by dsimp only; omega, rfl, hO⟩
  · rintro ⟨f, ⟨p, q, r, s⟩, i⟩ ⟨g1, g2, g3, g4⟩
    dsimp only at g1 g2 g3 g4 ⊢
    have w1 : i < l.length → wrap64 (i + 1) = i + 1 := fun h => wrap_small (by omega) (by omega)
    have st : ∀ e, l[i.toNat]? = some e → wmO g l = if numT (wmStep f (p, q, r, s) e) then wmL false (wmStep f (p, q, r, s) e) (l.drop (i.toNat + 1)) else none := fun e he => by rw [g4, wmL_step he]
    rcases Int.lt_or_le 0 i with hi | hi
    · have hf : f = false := by rw [g3]; simp; omega
      clear g3
      subst hf
      repeat' (first | ((with_reducible refine (?_ : (_ : Bool) = _)); (with_reducible rfl)) | ((with_reducible refine (?_ : (_ : Nat × Nat) = _)); (with_reducible rfl)) | (with_reducible refine leafRI ?_) | (with_reducible refine leafRB ?_) | (with_reducible refine leafI ?_) | (with_reducible refine leafB ?_) | ((with_reducible refine (?_ : (_ : Int) = _)); (with_reducible rfl)) | ((with_reducible refine (?_ : (_ : List (List Value)) = _)); (with_reducible rfl)) | ((with_reducible refine (?_ : (_ : Int) ≠ 0)); (first | assumption | omega | (simp only [ints_len] at *; omega) | (simp; omega))) | ((with_reducible refine (?_ : (_ : Int) ≤ _)); (first | assumption | omega | (simp only [ints_len] at *; omega) | (simp; omega))) | ((with_reducible refine (?_ : (_ : Int) < _)); (first | assumption | omega | (simp only [ints_len] at *; omega) | (simp; omega))) | ((with_reducible refine (?_ : (_ : Nat) ≤ _)); (first | omega | (simp only [List.length_cons, List.length_nil]; omega) | (simp; omega))) | ((with_reducible refine (?_ : (_ : Nat) = _)); (first | (with_reducible rfl) | (simp; done) | (simp only [fr_len]) | (simp only [ints_len]) | omega | (simp [*]; done))) | ((with_reducible refine view_at ?_ ?_); (focus (constructor <;> (first | omega | (simp only [ints_len] at *; omega)))); intro n hn) | (refine And.intro ?_ ?_) | (intro h; first | (exact Bool.noConfusion h) | ((simp only [decide_eq_true_eq, decide_eq_false_iff_not, beq_iff_eq, bne_iff_ne, ne_eq, beq_eq_false_iff_ne, bne_eq_false_iff_eq, Bool.not_eq_true', Bool.not_eq_false', Bool.not_eq_true, Bool.not_eq_false, Int.not_le, Int.not_lt, Bool.and_eq_true, Bool.or_eq_true, Bool.or_eq_false_iff, Bool.and_eq_false_iff] at h); (try (exfalso; omega))) | skip) | ((refine (?_ : ACall _ _ _ _ _ _ _)); first | ((apply acall (spec_foMul _ _ _ _ _ _ _ _)); (focus (repeat' (first | exact rfl | (refine And.intro ?_ ?_) | (simp only [ints_len]; done) | (simp; done) | omega)))) | ((apply acall (spec_foMatrix _ _ _ _)); (focus (repeat' (first | exact rfl | (refine And.intro ?_ ?_) | (simp only [ints_len]; done) | (simp; done) | omega))))) | ((with_reducible refine (?_ : chk _ _ = true)); kernel_rfl) | exact trivial)
      any_goals ((have hN : wmO g l = none := by (rw [st _ hn]; (have hf : numT (wmStep false (p, q, r, s) n) = false := by (unfold wmStep; simp only [numT, Bool.and_eq_false_iff]; exact h)); rw [hf]; rfl)); simp [wmM, hN]; done)
      any_goals (first | ((have hN : wmO g l = some (p, q, r, s) := by (rw [g4, List.drop_eq_nil_of_le (by omega)]; rfl)); simp [wmM, hN]; done) | skip)
      refine ⟨(false, mulT (mulT (p, q, r, s) (0, -1, 1, 0)) (1, n, 0, 1), wrap64 (i + 1)), ?_, ?_, none, And.intro rfl (And.intro (by repeat' (first | exact trivial | exact rfl | (refine And.intro ?_ ?_))) (by repeat' (first | exact trivial | exact rfl | (refine And.intro ?_ ?_))))⟩
      · dsimp only
        have hy : numT (wmStep false (p, q, r, s) n) = true := by unfold wmStep; simp only [numT, Bool.and_eq_true]; exact h
        rw [w1 (by omega), show (i + 1).toNat = i.toNat + 1 by omega, st _ hn, hy, if_pos rfl]
        exact ⟨by omega, by omega, by simp; omega, rfl⟩
      · dsimp only; rw [w1 (by omega)]; omega
    · have hf : f = true := by rw [g3]; simp; omega
      clear g3
      subst hf
      repeat' (first | ((with_reducible refine (?_ : (_ : Bool) = _)); (with_reducible rfl)) | ((with_reducible refine (?_ : (_ : Nat × Nat) = _)); (with_reducible rfl)) | (with_reducible refine leafRI ?_) | (with_reducible refine leafRB ?_) | (with_reducible refine leafI ?_) | (with_reducible refine leafB ?_) | ((with_reducible refine (?_ : (_ : Int) = _)); (with_reducible rfl)) | ((with_reducible refine (?_ : (_ : List (List Value)) = _)); (with_reducible rfl)) | ((with_reducible refine (?_ : (_ : Int) ≠ 0)); (first | assumption | omega | (simp only [ints_len] at *; omega) | (simp; omega))) | ((with_reducible refine (?_ : (_ : Int) ≤ _)); (first | assumption | omega | (simp only [ints_len] at *; omega) | (simp; omega))) | ((with_reducible refine (?_ : (_ : Int) < _)); (first | assumption | omega | (simp only [ints_len] at *; omega) | (simp; omega))) | ((with_reducible refine (?_ : (_ : Nat) ≤ _)); (first | omega | (simp only [List.length_cons, List.length_nil]; omega) | (simp; omega))) | ((with_reducible refine (?_ : (_ : Nat) = _)); (first | (with_reducible rfl) | (simp; done) | (simp only [fr_len]) | (simp only [ints_len]) | omega | (simp [*]; done))) | ((with_reducible refine view_at ?_ ?_); (focus (constructor <;> (first | omega | (simp only [ints_len] at *; omega)))); intro n hn) | (refine And.intro ?_ ?_) | (intro h; first | (exact Bool.noConfusion h) | ((simp only [decide_eq_true_eq, decide_eq_false_iff_not, beq_iff_eq, bne_iff_ne, ne_eq, beq_eq_false_iff_ne, bne_eq_false_iff_eq, Bool.not_eq_true', Bool.not_eq_false', Bool.not_eq_true, Bool.not_eq_false, Int.not_le, Int.not_lt, Bool.and_eq_true, Bool.or_eq_true, Bool.or_eq_false_iff, Bool.and_eq_false_iff] at h); (try (exfalso; omega))) | skip) | ((refine (?_ : ACall _ _ _ _ _ _ _)); first | ((apply acall (spec_foMul _ _ _ _ _ _ _ _)); (focus (repeat' (first | exact rfl | (refine And.intro ?_ ?_) | (simp only [ints_len]; done) | (simp; done) | omega)))) | ((apply acall (spec_foMatrix _ _ _ _)); (focus (repeat' (first | exact rfl | (refine And.intro ?_ ?_) | (simp only [ints_len]; done) | (simp; done) | omega))))) | ((with_reducible refine (?_ : chk _ _ = true)); kernel_rfl) | exact trivial)
      any_goals ((have hN : wmO g l = none := by (rw [st _ hn]; (have hf : numT (wmStep true (p, q, r, s) n) = false := by (unfold wmStep; simp only [numT, Bool.and_eq_false_iff]; exact h)); rw [hf]; rfl)); simp [wmM, hN]; done)
      any_goals (first | ((have hN : wmO g l = some (p, q, r, s) := by (rw [g4, List.drop_eq_nil_of_le (by omega)]; rfl)); simp [wmM, hN]; done) | skip)
      refine ⟨(false, mulT (p, q, r, s) (1, n, 0, 1), wrap64 (i + 1)), ?_, ?_, none, And.intro rfl (And.intro (by repeat' (first | exact trivial | exact rfl | (refine And.intro ?_ ?_))) (by repeat' (first | exact trivial | exact rfl | (refine And.intro ?_ ?_))))⟩
      · dsimp only
        have hy : numT (wmStep true (p, q, r, s) n) = true := by unfold wmStep; simp only [numT, Bool.and_eq_true]; exact h
        rw [w1 (by omega), show (i + 1).toNat = i.toNat + 1 by omega, st _ hn, hy, if_pos rfl]
        exact ⟨by omega, by omega, by simp; omega, rfl⟩
      · dsimp only; rw [w1 (by omega)]; omega

theorem spec_WordMatrix (g : Int) (l : List Int) (_lg : -9223372036854775808 ≤ g) (_ug : g ≤ 9223372036854775807) (hl : l.length ≤ 1000000000) : AFun Try.prog 34 [] [Wo g l] (PM (wmM g l) (wmO g l).isSome) [] [] := by
  refine afun_intro fn34 (by simp) rfl (by repeat' (first | exact trivial | (simp; done) | refine ⟨?_, ?_⟩)) ?_
  unfold ac34
  repeat' (first | ((with_reducible refine (?_ : (_ : Bool) = _)); (with_reducible rfl)) | ((with_reducible refine (?_ : (_ : Nat × Nat) = _)); (with_reducible rfl)) | (with_reducible refine leafRI ?_) | (with_reducible refine leafRB ?_) | (with_reducible refine leafI ?_) | (with_reducible refine leafB ?_) | ((with_reducible refine (?_ : (_ : Int) = _)); (with_reducible rfl)) | ((with_reducible refine (?_ : (_ : List (List Value)) = _)); (with_reducible rfl)) | ((with_reducible refine (?_ : (_ : Int) ≠ 0)); (first | assumption | omega | (simp only [ints_len] at *; omega) | (simp; omega))) | ((with_reducible refine (?_ : (_ : Int) ≤ _)); (first | assumption | omega | (simp only [ints_len] at *; omega) | (simp; omega))) | ((with_reducible refine (?_ : (_ : Int) < _)); (first | assumption | omega | (simp only [ints_len] at *; omega) | (simp; omega))) | ((with_reducible refine (?_ : (_ : Nat) ≤ _)); (first | omega | (simp only [List.length_cons, List.length_nil]; omega) | (simp; omega))) | ((with_reducible refine (?_ : (_ : Nat) = _)); (first | (with_reducible rfl) | (simp; done) | (simp only [fr_len]) | (simp only [ints_len]) | omega | (simp [*]; done))) | (refine And.intro ?_ ?_) | (intro h; first | (exact Bool.noConfusion h) | ((simp only [decide_eq_true_eq, decide_eq_false_iff_not, beq_iff_eq, bne_iff_ne, ne_eq, beq_eq_false_iff_ne, bne_eq_false_iff_eq, Bool.not_eq_true', Bool.not_eq_false', Bool.not_eq_true, Bool.not_eq_false, Int.not_le, Int.not_lt, Bool.and_eq_true, Bool.or_eq_true, Bool.or_eq_false_iff, Bool.and_eq_false_iff] at h); (try (first | (exact Bool.noConfusion h) | (exact (h trivial).elim)))) | skip) | ((refine (?_ : ACall _ _ _ _ _ _ _)); first | ((apply acall (spec_moGood _ _ ?_ ?_ ?_)); (focus (repeat' (first | exact rfl | (refine And.intro ?_ ?_) | (simp only [ints_len]; done) | (simp; done) | omega)))) | ((apply acall (spec_moMatrix _ _ ?_ ?_ ?_)); (focus (repeat' (first | exact rfl | (refine And.intro ?_ ?_) | (simp only [ints_len]; done) | (simp; done) | omega))))) | ((with_reducible refine (?_ : chk _ _ = true)); kernel_rfl) | exact trivial)
  all_goals (first | assumption | ((have hN : wmO g l = none := by simp [wmO, h]); simp [wmM, hN]))


theorem impl_swap : AFun Try.prog 74 [] [] (Ma 0 (-1) 1 0) [] [] := by
  refine afun_intro fn74 (by simp) rfl (by repeat' (first | exact trivial | (simp; done) | refine ⟨?_, ?_⟩)) ?_
  unfold ac74
  repeat' (first | ((with_reducible refine (?_ : (_ : Bool) = _)); (with_reducible rfl)) | ((with_reducible refine (?_ : (_ : Nat × Nat) = _)); (with_reducible rfl)) | (with_reducible refine leafRI ?_) | (with_reducible refine leafRB ?_) | (with_reducible refine leafI ?_) | (with_reducible refine leafB ?_) | ((with_reducible refine (?_ : (_ : Int) = _)); (with_reducible rfl)) | ((with_reducible refine (?_ : (_ : List (List Value)) = _)); (with_reducible rfl)) | ((with_reducible refine (?_ : (_ : Int) ≠ 0)); (first | assumption | omega | (simp only [ints_len] at *; omega) | (simp; omega))) | ((with_reducible refine (?_ : (_ : Int) ≤ _)); (first | assumption | omega | (simp only [ints_len] at *; omega) | (simp; omega))) | ((with_reducible refine (?_ : (_ : Int) < _)); (first | assumption | omega | (simp only [ints_len] at *; omega) | (simp; omega))) | ((with_reducible refine (?_ : (_ : Nat) ≤ _)); (first | omega | (simp only [List.length_cons, List.length_nil]; omega) | (simp; omega))) | ((with_reducible refine (?_ : (_ : Nat) = _)); (first | (with_reducible rfl) | (simp; done) | (simp only [fr_len]) | (simp only [ints_len]) | omega | (simp [*]; done))) | (refine And.intro ?_ ?_) | (intro h; first | (exact Bool.noConfusion h) | ((simp only [decide_eq_true_eq, decide_eq_false_iff_not, beq_iff_eq, bne_iff_ne, ne_eq, beq_eq_false_iff_ne, bne_eq_false_iff_eq, Bool.not_eq_true', Bool.not_eq_false', Bool.not_eq_true, Bool.not_eq_false, Int.not_le, Int.not_lt, Bool.and_eq_true, Bool.or_eq_true, Bool.or_eq_false_iff, Bool.and_eq_false_iff] at h); (try (first | (exact Bool.noConfusion h) | (exact (h trivial).elim)))) | skip) | ((with_reducible refine (?_ : chk _ _ = true)); kernel_rfl) | exact trivial)

theorem wmO_1 {g : Int} {l : List Int} (h : wrd g l = true) : wmO g l = if g < 0 then (wmL true (1, 0, 0, 1) l).map negT else wmL true (1, 0, 0, 1) l := by
  have hw := wrd_len h
  have ha : l.all num = true := by unfold wrd at h; simp only [Bool.and_eq_true] at h; exact h.2
  rw [wmO, if_pos h]
  rcases hw.2.2 with e | e
  · rw [e, if_neg (by omega)]
  · rw [e, if_pos (by omega), ← wmL_neg l true _ (by simp [numT, num]) ha]
    rw [negT_eq (by simp [numT, num])]; rfl

theorem impl_WordMatrix (g : Int) (l : List Int) (_lg : -9223372036854775808 ≤ g) (_ug : g ≤ 9223372036854775807) (hl : l.length ≤ 1000000000) : AFun Try.prog 35 [] [Wo g l] (PM (wmM g l) (wmO g l).isSome) [] [] := by
  have il := ints_len l
  refine afun_intro fn35 (by simp) rfl (by repeat' (first | exact trivial | (simp; done) | refine ⟨?_, ?_⟩)) ?_
  unfold ac35
  repeat' (first | ((with_reducible refine (?_ : (_ : Bool) = _)); (with_reducible rfl)) | ((with_reducible refine (?_ : (_ : Nat × Nat) = _)); (with_reducible rfl)) | (with_reducible refine leafRI ?_) | (with_reducible refine leafRB ?_) | (with_reducible refine leafI ?_) | (with_reducible refine leafB ?_) | ((with_reducible refine (?_ : (_ : Int) = _)); (with_reducible rfl)) | ((with_reducible refine (?_ : (_ : List (List Value)) = _)); (with_reducible rfl)) | ((with_reducible refine (?_ : (_ : Int) ≠ 0)); (first | assumption | omega | (simp only [ints_len] at *; omega) | (simp; omega))) | ((with_reducible refine (?_ : (_ : Int) ≤ _)); (first | assumption | omega | (simp only [ints_len] at *; omega) | (simp; omega))) | ((with_reducible refine (?_ : (_ : Int) < _)); (first | assumption | omega | (simp only [ints_len] at *; omega) | (simp; omega))) | ((with_reducible refine (?_ : (_ : Nat) ≤ _)); (first | omega | (simp only [List.length_cons, List.length_nil]; omega) | (simp; omega))) | ((with_reducible refine (?_ : (_ : Nat) = _)); (first | (with_reducible rfl) | (simp; done) | (simp only [fr_len]) | (simp only [ints_len]) | omega | (simp [*]; done))) | (refine And.intro ?_ ?_) | (intro h; first | (exact Bool.noConfusion h) | ((simp only [decide_eq_true_eq, decide_eq_false_iff_not, beq_iff_eq, bne_iff_ne, ne_eq, beq_eq_false_iff_ne, bne_eq_false_iff_eq, Bool.not_eq_true', Bool.not_eq_false', Bool.not_eq_true, Bool.not_eq_false, Int.not_le, Int.not_lt, Bool.and_eq_true, Bool.or_eq_true, Bool.or_eq_false_iff, Bool.and_eq_false_iff] at h); (try (first | (exact Bool.noConfusion h) | (exact (h trivial).elim)))) | skip) | ((refine (?_ : ACall _ _ _ _ _ _ _)); first | ((apply acall (impl_isWord _ _ ?_ ?_ ?_)); (focus (repeat' (first | exact rfl | (refine And.intro ?_ ?_) | (simp only [ints_len]; done) | (simp; done) | omega)))) | ((apply acall (impl_one)); (focus (repeat' (first | exact rfl | (refine And.intro ?_ ?_) | (simp only [ints_len]; done) | (simp; done) | omega))))) | ((with_reducible refine (?_ : chk _ _ = true)); kernel_rfl) | exact trivial)
  any_goals (first | assumption | ((have hN : wmO g l = none := by simp [wmO, h]); simp [wmM, hN]; done) | skip)
  have hw := wrd_len h
  have hO := wmO_1 h
  have no1 : wmL true (1, 0, 0, 1) l = none → wmO g l = none := fun h => by rw [hO, h]; split <;> rfl
  have yes1 : ∀ {m}, wmL true (1, 0, 0, 1) l = some m → wmO g l = if g < 0 then some (negT m) else some m := fun h => by rw [hO, h]; rfl
  refine loop_rule (σ := Bool × T4 × Int) (fun s => [(15, I s.2.2)]) (fun s => [((1, 0), .bx [cI g, .view 1 (ints l)]), ((2, 0), .bx [cI 0, cI 0, cI 0, cI 0]), ((4, 0), .bx [cI s.2.1.1, cI s.2.1.2.1, cI s.2.1.2.2.1, cI s.2.1.2.2.2])]) (fun s => 0 ≤ s.2.2 ∧ s.2.2 ≤ l.length ∧ s.1 = decide (s.2.2 = 0) ∧ wmL true (1, 0, 0, 1) l = wmL s.1 s.2.1 (l.drop s.2.2.toNat)) (fun s => (l.length - s.2.2).toNat) ((true, (1, 0, 0, 1), 0)) ?_ (by repeat' (first | exact trivial | exact rfl | (refine And.intro ?_ ?_))) (by repeat' (first | exact trivial | exact rfl | (refine And.intro ?_ ?_))) (fun s => ⟨rfl, rfl⟩) (fun s i h => by first | exact absurd h (Nat.not_lt_zero i) | (cases i with | zero => rfl | succ i => exact absurd (Nat.lt_of_succ_lt_succ h) (Nat.not_lt_zero i))) ?_
  · exact ⟨by dsimp only; omega, by dsimp only; omega, rfl, rfl⟩
  · rintro ⟨f, ⟨p, q, r, s⟩, i⟩ ⟨g1, g2, g3, g4⟩
    dsimp only at g1 g2 g3 g4 ⊢
    have w1 : i < l.length → wrap64 (i + 1) = i + 1 := fun h => wrap_small (by omega) (by omega)
    have st : ∀ e, l[i.toNat]? = some e → wmL true (1, 0, 0, 1) l = if numT (wmStep f (p, q, r, s) e) then wmL false (wmStep f (p, q, r, s) e) (l.drop (i.toNat + 1)) else none := fun e he => by rw [g4, wmL_step he]
    rcases Int.lt_or_le 0 i with hi | hi
    · have hf : f = false := by rw [g3]; simp; omega
      clear g3
      subst hf
      repeat' (first | ((with_reducible refine (?_ : (_ : Bool) = _)); (with_reducible rfl)) | ((with_reducible refine (?_ : (_ : Nat × Nat) = _)); (with_reducible rfl)) | (with_reducible refine leafRI ?_) | (with_reducible refine leafRB ?_) | (with_reducible refine leafI ?_) | (with_reducible refine leafB ?_) | ((with_reducible refine (?_ : (_ : Int) = _)); (with_reducible rfl)) | ((with_reducible refine (?_ : (_ : List (List Value)) = _)); (with_reducible rfl)) | ((with_reducible refine (?_ : (_ : Int) ≠ 0)); (first | assumption | omega | (simp only [ints_len] at *; omega) | (simp; omega))) | ((with_reducible refine (?_ : (_ : Int) ≤ _)); (first | assumption | omega | (simp only [ints_len] at *; omega) | (simp; omega))) | ((with_reducible refine (?_ : (_ : Int) < _)); (first | assumption | omega | (simp only [ints_len] at *; omega) | (simp; omega))) | ((with_reducible refine (?_ : (_ : Nat) ≤ _)); (first | omega | (simp only [List.length_cons, List.length_nil]; omega) | (simp; omega))) | ((with_reducible refine (?_ : (_ : Nat) = _)); (first | (with_reducible rfl) | (simp; done) | (simp only [fr_len]) | (simp only [ints_len]) | omega | (simp [*]; done))) | ((with_reducible refine view_at ?_ ?_); (focus (constructor <;> (first | omega | (simp only [ints_len] at *; omega)))); intro n hn) | (refine And.intro ?_ ?_) | (intro h; first | (exact Bool.noConfusion h) | ((simp only [decide_eq_true_eq, decide_eq_false_iff_not, beq_iff_eq, bne_iff_ne, ne_eq, beq_eq_false_iff_ne, bne_eq_false_iff_eq, Bool.not_eq_true', Bool.not_eq_false', Bool.not_eq_true, Bool.not_eq_false, Int.not_le, Int.not_lt, Bool.and_eq_true, Bool.or_eq_true, Bool.or_eq_false_iff, Bool.and_eq_false_iff] at h); (try (exfalso; omega))) | skip) | ((refine (?_ : ACall _ _ _ _ _ _ _)); first | ((apply acall (impl_times _ _ _ _ _ _ _ _)); (focus (repeat' (first | exact rfl | (refine And.intro ?_ ?_) | (simp only [ints_len]; done) | (simp; done) | omega)))) | ((apply acall (impl_swap)); (focus (repeat' (first | exact rfl | (refine And.intro ?_ ?_) | (simp only [ints_len]; done) | (simp; done) | omega)))) | ((apply acall (impl_IsMatrix _ _ _ _)); (focus (repeat' (first | exact rfl | (refine And.intro ?_ ?_) | (simp only [ints_len]; done) | (simp; done) | omega)))) | ((apply acall (impl_negative _ _ _ _)); (focus (repeat' (first | exact rfl | (refine And.intro ?_ ?_) | (simp only [ints_len]; done) | (simp; done) | omega))))) | ((with_reducible refine (?_ : chk _ _ = true)); kernel_rfl) | exact trivial)
      any_goals (first | ((have hN : wmL true (1, 0, 0, 1) l = none := by (rw [st _ hn]; (have hf : numT (wmStep false (p, q, r, s) n) = false := by (unfold wmStep; simp only [numT, Bool.and_eq_false_iff]; exact h)); rw [hf]; rfl)); (have hx := no1 hN); simp [wmM, hx]; done) | skip)
      any_goals (first | ((have hN : wmL true (1, 0, 0, 1) l = some (p, q, r, s) := by (rw [g4, List.drop_eq_nil_of_le (by omega)]; rfl)); (have hx := yes1 hN); (first | (rw [if_pos (by assumption)] at hx) | (rw [if_neg (by omega)] at hx)); simp [wmM, hx, negT]; done) | skip)
      refine ⟨(false, mulT (mulT (p, q, r, s) (0, -1, 1, 0)) (1, n, 0, 1), wrap64 (i + 1)), ?_, ?_, none, And.intro rfl (And.intro (by repeat' (first | exact trivial | exact rfl | (refine And.intro ?_ ?_))) (by repeat' (first | exact trivial | exact rfl | (refine And.intro ?_ ?_))))⟩
      · dsimp only
        have hy : numT (wmStep false (p, q, r, s) n) = true := by unfold wmStep; simp only [numT, Bool.and_eq_true]; exact h
        rw [w1 (by omega), show (i + 1).toNat = i.toNat + 1 by omega, st _ hn, hy, if_pos rfl]
        exact ⟨by omega, by omega, by simp; omega, rfl⟩
      · dsimp only; rw [w1 (by omega)]; omega
    · have hf : f = true := by rw [g3]; simp; omega
      clear g3
      subst hf
      repeat' (first | ((with_reducible refine (?_ : (_ : Bool) = _)); (with_reducible rfl)) | ((with_reducible refine (?_ : (_ : Nat × Nat) = _)); (with_reducible rfl)) | (with_reducible refine leafRI ?_) | (with_reducible refine leafRB ?_) | (with_reducible refine leafI ?_) | (with_reducible refine leafB ?_) | ((with_reducible refine (?_ : (_ : Int) = _)); (with_reducible rfl)) | ((with_reducible refine (?_ : (_ : List (List Value)) = _)); (with_reducible rfl)) | ((with_reducible refine (?_ : (_ : Int) ≠ 0)); (first | assumption | omega | (simp only [ints_len] at *; omega) | (simp; omega))) | ((with_reducible refine (?_ : (_ : Int) ≤ _)); (first | assumption | omega | (simp only [ints_len] at *; omega) | (simp; omega))) | ((with_reducible refine (?_ : (_ : Int) < _)); (first | assumption | omega | (simp only [ints_len] at *; omega) | (simp; omega))) | ((with_reducible refine (?_ : (_ : Nat) ≤ _)); (first | omega | (simp only [List.length_cons, List.length_nil]; omega) | (simp; omega))) | ((with_reducible refine (?_ : (_ : Nat) = _)); (first | (with_reducible rfl) | (simp; done) | (simp only [fr_len]) | (simp only [ints_len]) | omega | (simp [*]; done))) | ((with_reducible refine view_at ?_ ?_); (focus (constructor <;> (first | omega | (simp only [ints_len] at *; omega)))); intro n hn) | (refine And.intro ?_ ?_) | (intro h; first | (exact Bool.noConfusion h) | ((simp only [decide_eq_true_eq, decide_eq_false_iff_not, beq_iff_eq, bne_iff_ne, ne_eq, beq_eq_false_iff_ne, bne_eq_false_iff_eq, Bool.not_eq_true', Bool.not_eq_false', Bool.not_eq_true, Bool.not_eq_false, Int.not_le, Int.not_lt, Bool.and_eq_true, Bool.or_eq_true, Bool.or_eq_false_iff, Bool.and_eq_false_iff] at h); (try (exfalso; omega))) | skip) | ((refine (?_ : ACall _ _ _ _ _ _ _)); first | ((apply acall (impl_times _ _ _ _ _ _ _ _)); (focus (repeat' (first | exact rfl | (refine And.intro ?_ ?_) | (simp only [ints_len]; done) | (simp; done) | omega)))) | ((apply acall (impl_swap)); (focus (repeat' (first | exact rfl | (refine And.intro ?_ ?_) | (simp only [ints_len]; done) | (simp; done) | omega)))) | ((apply acall (impl_IsMatrix _ _ _ _)); (focus (repeat' (first | exact rfl | (refine And.intro ?_ ?_) | (simp only [ints_len]; done) | (simp; done) | omega)))) | ((apply acall (impl_negative _ _ _ _)); (focus (repeat' (first | exact rfl | (refine And.intro ?_ ?_) | (simp only [ints_len]; done) | (simp; done) | omega))))) | ((with_reducible refine (?_ : chk _ _ = true)); kernel_rfl) | exact trivial)
      any_goals (first | ((have hN : wmL true (1, 0, 0, 1) l = none := by (rw [st _ hn]; (have hf : numT (wmStep true (p, q, r, s) n) = false := by (unfold wmStep; simp only [numT, Bool.and_eq_false_iff]; exact h)); rw [hf]; rfl)); (have hx := no1 hN); simp [wmM, hx]; done) | skip)
      any_goals (first | ((have hN : wmL true (1, 0, 0, 1) l = some (p, q, r, s) := by (rw [g4, List.drop_eq_nil_of_le (by omega)]; rfl)); (have hx := yes1 hN); (first | (rw [if_pos (by assumption)] at hx) | (rw [if_neg (by omega)] at hx)); simp [wmM, hx, negT]; done) | skip)
      refine ⟨(false, mulT (p, q, r, s) (1, n, 0, 1), wrap64 (i + 1)), ?_, ?_, none, And.intro rfl (And.intro (by repeat' (first | exact trivial | exact rfl | (refine And.intro ?_ ?_))) (by repeat' (first | exact trivial | exact rfl | (refine And.intro ?_ ?_))))⟩
      · dsimp only
        have hy : numT (wmStep true (p, q, r, s) n) = true := by unfold wmStep; simp only [numT, Bool.and_eq_true]; exact h
        rw [w1 (by omega), show (i + 1).toNat = i.toNat + 1 by omega, st _ hn, hy, if_pos rfl]
        exact ⟨by omega, by omega, by simp; omega, rfl⟩
      · dsimp only; rw [w1 (by omega)]; omega

theorem claw_WordMatrix (g : Int) (l : List Int) (_lg : -9223372036854775808 ≤ g) (_ug : g ≤ 9223372036854775807) (hz : l.length ≤ 9223372036854775807) : AFun Try.prog 9 [] [Wo g l] (Bo true) [] [] := by
  refine afun_intro fn9 (by simp) rfl (by repeat' (first | exact trivial | (simp; done) | refine ⟨?_, ?_⟩)) ?_
  unfold ac9
  repeat' (first | ((with_reducible refine (?_ : (_ : Bool) = _)); (with_reducible rfl)) | ((with_reducible refine (?_ : (_ : Nat × Nat) = _)); (with_reducible rfl)) | (with_reducible refine leafRI ?_) | (with_reducible refine leafRB ?_) | (with_reducible refine leafI ?_) | (with_reducible refine leafB ?_) | ((with_reducible refine (?_ : (_ : Int) = _)); (with_reducible rfl)) | ((with_reducible refine (?_ : (_ : List (List Value)) = _)); (with_reducible rfl)) | ((with_reducible refine (?_ : (_ : Int) ≠ 0)); (first | assumption | omega | (simp only [ints_len] at *; omega) | (simp; omega))) | ((with_reducible refine (?_ : (_ : Int) ≤ _)); (first | assumption | omega | (simp only [ints_len] at *; omega) | (simp; omega))) | ((with_reducible refine (?_ : (_ : Int) < _)); (first | assumption | omega | (simp only [ints_len] at *; omega) | (simp; omega))) | ((with_reducible refine (?_ : (_ : Nat) ≤ _)); (first | omega | (simp only [List.length_cons, List.length_nil]; omega) | (simp; omega))) | ((with_reducible refine (?_ : (_ : Nat) = _)); (first | (with_reducible rfl) | (simp; done) | (simp only [fr_len]) | (simp only [ints_len]) | omega | (simp [*]; done))) | (refine And.intro ?_ ?_) | (intro h; first | (exact Bool.noConfusion h) | ((simp only [decide_eq_true_eq, decide_eq_false_iff_not, beq_iff_eq, bne_iff_ne, ne_eq, beq_eq_false_iff_ne, bne_eq_false_iff_eq, Bool.not_eq_true', Bool.not_eq_false', Bool.not_eq_true, Bool.not_eq_false, Int.not_le, Int.not_lt, Bool.and_eq_true, Bool.or_eq_true, Bool.or_eq_false_iff, Bool.and_eq_false_iff] at h); (try (first | (exact Bool.noConfusion h) | (exact (h trivial).elim)))) | skip) | ((refine (?_ : ACall _ _ _ _ _ _ _)); first | ((apply acall (laws_szWord _ _ _ ?_ ?_ ?_)); (focus (repeat' (first | exact rfl | (refine And.intro ?_ ?_) | (simp only [ints_len]; done) | (simp; done) | omega)))) | ((apply acall (laws_toWord _ _ ?_)); (focus (repeat' (first | exact rfl | (refine And.intro ?_ ?_) | (simp only [ints_len]; done) | (simp; done) | omega)))) | ((apply acall (spec_WordMatrix _ _ ?_ ?_ ?_)); (focus (repeat' (first | exact rfl | (refine And.intro ?_ ?_) | (simp only [ints_len]; done) | (simp; done) | omega)))) | ((apply acall (impl_WordMatrix _ _ ?_ ?_ ?_)); (focus (repeat' (first | exact rfl | (refine And.intro ?_ ?_) | (simp only [ints_len]; done) | (simp; done) | omega)))) | ((apply acall (laws_eqWord _ _ _ _ ?_ ?_)); (focus (repeat' (first | exact rfl | (refine And.intro ?_ ?_) | (simp only [ints_len]; done) | (simp; done) | omega)))) | ((apply acall (laws_eqMatrix _ _ _ _ _ _ _ _)); (focus (repeat' (first | exact rfl | (refine And.intro ?_ ?_) | (simp only [ints_len]; done) | (simp; done) | omega))))) | ((with_reducible refine (?_ : chk _ _ = true)); kernel_rfl) | exact trivial)
  all_goals (first | omega | (simp_all; done) | skip)

theorem law_WordMatrix (g : Int) (l : List Int) (w : World) (_lg : -9223372036854775808 ≤ g) (_ug : g ≤ 9223372036854775807) (hz : l.length ≤ 9223372036854775807) (v : Value) (hv : Came w l v) : Calls Try.prog 9 #[.agg #[.int .i64 g, v]] w fun e w' => e = .returned (.bool (true)) ∧ Below w.heap.size w w' := by
  exact law_of_afunA (claw_WordMatrix g l _lg _ug hz) w ⟨arg_word hv, trivial⟩

end Go.Proofs.Ythdfladfokccdaa
