/- Roots, squares, lists of points; Cornacchia. -/
import Derived.Test.YtemlkfcbcphenaaF15
namespace Go.Proofs.Ytemlkfcbcphenaa
set_option linter.unusedSimpArgs false
set_option linter.unusedVariables false
open Go.RowKit
set_option maxRecDepth 100000

/-! the root -/
def rtN : Nat → Nat
  | 0 => 0
  | n + 1 => if (rtN n + 1) * (rtN n + 1) ≤ n + 1 then rtN n + 1 else rtN n
theorem rtN_spec : ∀ n, rtN n * rtN n ≤ n ∧ n < (rtN n + 1) * (rtN n + 1)
  | 0 => by simp [rtN]
  | n + 1 => by
    have h := rtN_spec n
    simp only [rtN]
    split
    · rename_i hc
      refine ⟨hc, ?_⟩
      have : (rtN n + 1 + 1) * (rtN n + 1 + 1) = (rtN n + 1) * (rtN n + 1) + (2 * rtN n + 3) := by grind
      omega
    · omega
def rt (n : Int) : Int := rtN n.toNat
theorem rt_spec {n : Int} (h : 0 ≤ n) : 0 ≤ rt n ∧ rt n * rt n ≤ n ∧ n < (rt n + 1) * (rt n + 1) := by
  have h1 := rtN_spec n.toNat
  have e1 : (rt n * rt n) = ((rtN n.toNat * rtN n.toNat : Nat) : Int) := by simp [rt]
  have e2 : ((rt n + 1) * (rt n + 1)) = (((rtN n.toNat + 1) * (rtN n.toNat + 1) : Nat) : Int) := by simp [rt]
  exact ⟨by simp [rt], by omega, by omega⟩
theorem sq_mono {a b : Int} (h0 : 0 ≤ a) (h : a ≤ b) : a * a ≤ b * b := Int.mul_le_mul h h h0 (by omega)
theorem sq_lt {a b : Int} (h0 : 0 ≤ b) (h : a * a < b * b) : a < b := by
  rcases Int.lt_or_le a b with h1 | h1
  · exact h1
  · have := sq_mono h0 h1; omega
theorem rt_eq {n r : Int} (h0 : 0 ≤ r) (h1 : r * r ≤ n) (h2 : n < (r + 1) * (r + 1)) : rt n = r := by
  have := Int.mul_nonneg h0 h0
  obtain ⟨k0, k1, k2⟩ := rt_spec (n := n) (by omega)
  have a1 := sq_lt (a := rt n) (b := r + 1) (by omega) (by omega)
  have a2 := sq_lt (a := r) (b := rt n + 1) (by omega) (by omega)
  omega
theorem le_rt {n y : Int} (h : 0 ≤ n) (hy : 0 ≤ y) : y ≤ rt n ↔ y * y ≤ n := by
  obtain ⟨k0, k1, k2⟩ := rt_spec h
  constructor
  · intro h1; have := sq_mono hy h1; omega
  · intro h1; have := sq_lt (a := y) (b := rt n + 1) (by omega) (by omega); omega
theorem rt_le {n : Int} (h : 0 ≤ n) : rt n ≤ n := by
  obtain ⟨k0, k1, k2⟩ := rt_spec h
  rcases Int.lt_or_le 0 (rt n) with h1 | h1
  · have := Int.mul_le_mul_of_nonneg_right (show 1 ≤ rt n by omega) k0
    omega
  · omega


/-- n is a square. -/
def isSq (n : Int) : Bool := decide (0 ≤ n) && decide (rt n * rt n = n)
theorem isSq_iff {n : Int} : isSq n = true ↔ 0 ≤ n ∧ rt n * rt n = n := by simp [isSq]
theorem rt_bd {n : Int} (h1 : 0 ≤ n) (h2 : n ≤ 1000000000000000000) : 0 ≤ rt n ∧ rt n ≤ 1000000000 ∧ wrap64 (rt n * rt n) = rt n * rt n := by
  obtain ⟨k0, k1, k2⟩ := rt_spec h1
  have a := sq_lt (a := rt n) (b := 1000000001) (by omega) (by omega)
  exact ⟨k0, by omega, wrap_small (by have := Int.mul_nonneg k0 k0; omega) (by omega)⟩

/-! points -/
abbrev P2 := Int × Int
def pts (l : List P2) : List (List Value) := l.map fun p => [.int .i64 p.1, .int .i64 p.2]
@[simp] theorem pts_len (l : List P2) : (pts l).length = l.length := by simp [pts]
theorem pts_app (l l' : List P2) : pts (l ++ l') = pts l ++ pts l' := by simp [pts]
theorem pts_at {l : List P2} {i : Int} {k : List Value → Prop} (h : 0 ≤ i ∧ i < l.length) (hk : ∀ q, l[i.toNat]? = some q → k [.int .i64 q.1, .int .i64 q.2]) : ∃ es, (pts l)[i.toNat]? = some es ∧ k es := by
  have hi : i.toNat < l.length := by omega
  exact ⟨_, by simp [pts, hi], hk l[i.toNat] (by simp [hi])⟩
abbrev Vp (l : List P2) : V := .c (.view 2 (pts l))
abbrev Po (p : P2) : V := .agg [cI p.1, cI p.2]
abbrev FP (l : List P2) : Blk := .fl 25 2 (pts l)
def ltP (p q : P2) : Bool := decide (p.1 < q.1) || (decide (p.1 = q.1) && decide (p.2 < q.2))
/-- A point put into an ordered list. -/
def insP (p : P2) : List P2 → List P2
  | [] => [p]
  | q :: r => if ltP q p then q :: insP p r else p :: q :: r
theorem insP_len (p : P2) : ∀ l, (insP p l).length = l.length + 1
  | [] => rfl
  | q :: r => by simp only [insP]; split <;> simp [insP_len p r]
theorem insP_front {p : P2} {l : List P2} (h : ∀ q ∈ l, ltP q p = false) : insP p l = p :: l := by
  cases l with
  | nil => rfl
  | cons q r => simp [insP, h q (by simp)]
theorem insP_step {p q : P2} {l : List P2} {i : Nat} (h : l[i]? = some q) (hq : ltP q p = true) : l.take i ++ insP p (l.drop i) = l.take (i + 1) ++ insP p (l.drop (i + 1)) := by
  obtain ⟨h1, h2⟩ := List.getElem?_eq_some_iff.1 h
  rw [List.drop_eq_getElem_cons h1, h2, insP, if_pos hq, List.take_add_one, h]
  simp
theorem insP_stop {p q : P2} {l : List P2} {i : Nat} (h : l[i]? = some q) (hq : ltP q p = false) : insP p (l.drop i) = p :: l.drop i := by
  obtain ⟨h1, h2⟩ := List.getElem?_eq_some_iff.1 h
  rw [List.drop_eq_getElem_cons h1, h2, insP, if_neg (by simp [hq])]
theorem pts_take (l : List P2) (n : Nat) : (pts l).take n = pts (l.take n) := by simp [pts]
theorem pts_drop (l : List P2) (n : Nat) : (pts l).drop n = pts (l.drop n) := by simp [pts]

theorem spec_vaPut (l : List P2) (p : P2) (hl : l.length ≤ 1000000000) : AFun Try.prog 60 [] [Vp l, Po p] (.c (.slc (0, 0) (insP p l).length)) [] [FP (insP p l)] := by
  have hpl := pts_len l
  refine afun_intro fn60 rfl rfl (by repeat' (first | exact trivial | (simp; done) | refine ⟨?_, ?_⟩)) ?_
  unfold ac60
  repeat' (first | ((with_reducible refine (?_ : (_ : Bool) = _)); (with_reducible rfl)) | ((with_reducible refine (?_ : (_ : Nat × Nat) = _)); (with_reducible rfl)) | (with_reducible refine leafRI ?_) | (with_reducible refine leafRB ?_) | (with_reducible refine leafI ?_) | (with_reducible refine leafB ?_) | ((with_reducible refine (?_ : (_ : Int) = _)); (with_reducible rfl)) | ((with_reducible refine (?_ : (_ : List (List Value)) = _)); (with_reducible rfl)) | ((with_reducible refine (?_ : (_ : Int) ≠ 0)); (first | assumption | omega | (simp; done) | (simp only [ints_len] at *; omega) | (simp; omega))) | ((with_reducible refine (?_ : (_ : Int) ≤ _)); (first | assumption | omega | (simp; done) | (simp only [ints_len] at *; omega) | (simp; omega))) | ((with_reducible refine (?_ : (_ : Int) < _)); (first | assumption | omega | (simp; done) | (simp only [ints_len] at *; omega) | (simp; omega))) | ((with_reducible refine (?_ : (_ : Nat) ≤ _)); (first | omega | (simp only [List.length_cons, List.length_nil]; omega) | (simp [ints]; done) | (simp; omega))) | ((with_reducible refine (?_ : (_ : Nat) < _)); (first | omega | (simp only [List.length_cons, List.length_nil]; omega) | (simp [ints]; done) | (simp; omega))) | ((with_reducible refine (?_ : (_ : Nat) = _)); (first | (with_reducible rfl) | (simp; done) | (simp only [fr_len]) | (simp only [ints_len]) | omega | (simp [*]; done))) | (refine And.intro ?_ ?_) | (intro h; first | (exact Bool.noConfusion h) | ((simp only [decide_eq_true_eq, decide_eq_false_iff_not, beq_iff_eq, bne_iff_ne, ne_eq, beq_eq_false_iff_ne, bne_eq_false_iff_eq, Bool.not_eq_true', Bool.not_eq_false', Bool.not_eq_true, Bool.not_eq_false, Int.not_le, Int.not_lt, Bool.and_eq_true, Bool.or_eq_true, Bool.or_eq_false_iff, Bool.and_eq_false_iff] at h); (try (first | (exact Bool.noConfusion h) | (exact (h trivial).elim)))) | skip) | ((with_reducible refine (?_ : chk _ _ = true)); kernel_rfl) | ((with_reducible refine (?_ : (_ : IntKind) = _)); (with_reducible rfl)) | ((with_reducible refine (?_ : eqC (C.pvw _ _ _) (C.pvw _ _ _))); exact rfl) | ((with_reducible refine (?_ : eqC (C.pv (Value.int IntKind.u64 _)) _)); exact rfl) | exact trivial)
  refine loop_rule (σ := Int) (fun s => [(5, I s)]) (fun s => [((3, 0), .bx [cI p.1, cI p.2]), ((4, 0), .fl 25 2 [])]) (fun s => 0 ≤ s ∧ s ≤ l.length ∧ insP p l = l.take s.toNat ++ insP p (l.drop s.toNat)) (fun s => (l.length - s).toNat) (0) ?_ (by repeat' (first | exact trivial | exact rfl | (refine And.intro ?_ ?_))) (by repeat' (first | exact trivial | exact rfl | (refine And.intro ?_ ?_))) (fun s => ⟨rfl, rfl⟩) (fun s i h => by first | exact absurd h (Nat.not_lt_zero i) | (cases i with | zero => rfl | succ i => exact absurd (Nat.lt_of_succ_lt_succ h) (Nat.not_lt_zero i))) ?_
  · exact ⟨by omega, by omega, by simp⟩
  · rintro i ⟨g1, g2, g3⟩
    have ie : V.c (.pv (.int .i64 i)) = .c (.pv (.int .i64 (i.toNat : Nat))) := by rw [show ((i.toNat : Nat) : Int) = i by omega]
    have w1 : i < l.length → wrap64 (i + 1) = i + 1 := fun h => wrap_small (by omega) (by omega)
    have nx : ∀ q, l[i.toNat]? = some q → ltP q p = true → insP p l = l.take (i + 1).toNat ++ insP p (l.drop (i + 1).toNat) := fun q hq hp => by
      rw [g3, show (i + 1).toNat = i.toNat + 1 by omega]; exact insP_step hq hp
    have fin : ((∃ q, l[i.toNat]? = some q ∧ ltP q p = false) ∨ l.length ≤ i.toNat) → insP p l = l.take i.toNat ++ [p] ++ l.drop i.toNat := fun h => by
      rw [g3]
      rcases h with ⟨q, h1, h2⟩ | h
      · rw [insP_stop h1 h2]; simp
      · rw [List.drop_eq_nil_of_le h]; simp [insP]
    have lens : (l.take i.toNat).length = i.toNat ∧ (l.drop i.toNat).length = l.length - i.toNat := by simp; omega
    repeat' (first | ((with_reducible refine (?_ : (_ : Bool) = _)); (with_reducible rfl)) | ((with_reducible refine (?_ : (_ : Nat × Nat) = _)); (with_reducible rfl)) | (with_reducible refine leafRI ?_) | (with_reducible refine leafRB ?_) | (with_reducible refine leafI ?_) | (with_reducible refine leafB ?_) | ((with_reducible refine (?_ : (_ : Int) = _)); (with_reducible rfl)) | ((with_reducible refine (?_ : (_ : List (List Value)) = _)); (with_reducible rfl)) | ((with_reducible refine (?_ : (_ : Int) ≠ 0)); (first | assumption | omega | (simp; done) | (simp only [ints_len] at *; omega) | (simp; omega))) | ((with_reducible refine (?_ : (_ : Int) ≤ _)); (first | assumption | omega | (simp; done) | (simp only [ints_len] at *; omega) | (simp; omega))) | ((with_reducible refine (?_ : (_ : Int) < _)); (first | assumption | omega | (simp; done) | (simp only [ints_len] at *; omega) | (simp; omega))) | ((with_reducible refine (?_ : (_ : Nat) ≤ _)); (first | omega | (simp only [List.length_cons, List.length_nil]; omega) | (simp [ints]; done) | (simp; omega))) | ((with_reducible refine (?_ : (_ : Nat) < _)); (first | omega | (simp only [List.length_cons, List.length_nil]; omega) | (simp [ints]; done) | (simp; omega))) | ((with_reducible refine (?_ : (_ : Nat) = _)); (first | (with_reducible rfl) | (simp; done) | (simp only [fr_len]) | (simp only [ints_len]) | omega | (simp [*]; done))) | ((with_reducible refine pts_at ?_ ?_); (focus (constructor <;> (first | omega | (simp only [pts_len] at *; omega)))); intro q hq) | (refine And.intro ?_ ?_) | (intro h; first | (exact Bool.noConfusion h) | ((simp only [decide_eq_true_eq, decide_eq_false_iff_not, beq_iff_eq, bne_iff_ne, ne_eq, beq_eq_false_iff_ne, bne_eq_false_iff_eq, Bool.not_eq_true', Bool.not_eq_false', Bool.not_eq_true, Bool.not_eq_false, Int.not_le, Int.not_lt, Bool.and_eq_true, Bool.or_eq_true, Bool.or_eq_false_iff, Bool.and_eq_false_iff] at h); (try (first | (exact Bool.noConfusion h) | (exact (h trivial).elim)))) | skip) | ((with_reducible refine (?_ : chk _ _ = true)); kernel_rfl) | ((with_reducible refine (?_ : (_ : IntKind) = _)); (with_reducible rfl)) | ((with_reducible refine (?_ : eqC (C.pvw _ _ _) (C.pvw _ _ _))); exact rfl) | ((with_reducible refine (?_ : eqC (C.pv (Value.int IntKind.u64 _)) _)); exact rfl) | exact trivial)
    · refine ⟨_, ?_, ?_, none, And.intro rfl (And.intro (by repeat' (first | exact trivial | exact rfl | (refine And.intro ?_ ?_))) (by repeat' (first | exact trivial | exact rfl | (refine And.intro ?_ ?_))))⟩
      · rw [w1 (by omega)]; exact ⟨by omega, by omega, nx _ hq (by simp [ltP]; left; assumption)⟩
      · rw [w1 (by omega)]; omega
    · rename_i q1 hq1 hle q2 hq2 he
      have e2 : q2 = q1 := by rw [hq2] at hq1; exact Option.some.inj hq1
      have e3 : q = q1 := by rw [hq] at hq1; exact Option.some.inj hq1
      subst e2 e3
      refine ⟨_, ?_, ?_, none, And.intro rfl (And.intro (by repeat' (first | exact trivial | exact rfl | (refine And.intro ?_ ?_))) (by repeat' (first | exact trivial | exact rfl | (refine And.intro ?_ ?_))))⟩
      · rw [w1 (by omega)]; exact ⟨by omega, by omega, nx _ hq (by simp [ltP]; right; exact ⟨he, h⟩)⟩
      · rw [w1 (by omega)]; omega
    · rename_i q1 hq1 hle q2 hq2 he
      have e2 : q2 = q1 := by rw [hq2] at hq1; exact Option.some.inj hq1
      have e3 : q = q1 := by rw [hq] at hq1; exact Option.some.inj hq1
      subst e2 e3
      have hf := fin (.inl ⟨_, hq, by simp [ltP]; omega⟩)
      clear fin nx
      refine ⟨0, i.toNat, by omega, by rw [pts_len]; omega, rfl, ie, ?_⟩
      repeat' (first | ((with_reducible refine (?_ : (_ : Bool) = _)); (with_reducible rfl)) | ((with_reducible refine (?_ : (_ : Nat × Nat) = _)); (with_reducible rfl)) | (with_reducible refine leafRI ?_) | (with_reducible refine leafRB ?_) | (with_reducible refine leafI ?_) | (with_reducible refine leafB ?_) | ((with_reducible refine (?_ : (_ : Int) = _)); (with_reducible rfl)) | ((with_reducible refine (?_ : (_ : List (List Value)) = _)); (with_reducible rfl)) | ((with_reducible refine (?_ : (_ : Int) ≠ 0)); (first | assumption | omega | (simp; done) | (simp only [ints_len] at *; omega) | (simp; omega))) | ((with_reducible refine (?_ : (_ : Int) ≤ _)); (first | assumption | omega | (simp; done) | (simp only [ints_len] at *; omega) | (simp; omega))) | ((with_reducible refine (?_ : (_ : Int) < _)); (first | assumption | omega | (simp; done) | (simp only [ints_len] at *; omega) | (simp; omega))) | ((with_reducible refine (?_ : (_ : Nat) ≤ _)); (first | omega | (simp only [List.length_cons, List.length_nil]; omega) | (simp [ints]; done) | (simp; omega))) | ((with_reducible refine (?_ : (_ : Nat) < _)); (first | omega | (simp only [List.length_cons, List.length_nil]; omega) | (simp [ints]; done) | (simp; omega))) | ((with_reducible refine (?_ : (_ : Nat) = _)); (first | (with_reducible rfl) | (simp; done) | (simp only [fr_len]) | (simp only [ints_len]) | omega | (simp [*]; done))) | (refine And.intro ?_ ?_) | (intro h; first | (exact Bool.noConfusion h) | ((simp only [decide_eq_true_eq, decide_eq_false_iff_not, beq_iff_eq, bne_iff_ne, ne_eq, beq_eq_false_iff_ne, bne_eq_false_iff_eq, Bool.not_eq_true', Bool.not_eq_false', Bool.not_eq_true, Bool.not_eq_false, Int.not_le, Int.not_lt, Bool.and_eq_true, Bool.or_eq_true, Bool.or_eq_false_iff, Bool.and_eq_false_iff] at h); (try (first | (exact Bool.noConfusion h) | (exact (h trivial).elim)))) | skip) | ((with_reducible refine (?_ : chk _ _ = true)); kernel_rfl) | ((with_reducible refine (?_ : (_ : IntKind) = _)); (with_reducible rfl)) | ((with_reducible refine (?_ : eqC (C.pvw _ _ _) (C.pvw _ _ _))); exact rfl) | ((with_reducible refine (?_ : eqC (C.pv (Value.int IntKind.u64 _)) _)); exact rfl) | exact trivial)
      refine ⟨i.toNat, (pts l).length, by rw [pts_len]; omega, Nat.le_refl _, ie, rfl, ?_⟩
      repeat' (first | ((with_reducible refine (?_ : (_ : Bool) = _)); (with_reducible rfl)) | ((with_reducible refine (?_ : (_ : Nat × Nat) = _)); (with_reducible rfl)) | (with_reducible refine leafRI ?_) | (with_reducible refine leafRB ?_) | (with_reducible refine leafI ?_) | (with_reducible refine leafB ?_) | ((with_reducible refine (?_ : (_ : Int) = _)); (with_reducible rfl)) | ((with_reducible refine (?_ : (_ : List (List Value)) = _)); (with_reducible rfl)) | ((with_reducible refine (?_ : (_ : Int) ≠ 0)); (first | assumption | omega | (simp; done) | (simp only [ints_len] at *; omega) | (simp; omega))) | ((with_reducible refine (?_ : (_ : Int) ≤ _)); (first | assumption | omega | (simp; done) | (simp only [ints_len] at *; omega) | (simp; omega))) | ((with_reducible refine (?_ : (_ : Int) < _)); (first | assumption | omega | (simp; done) | (simp only [ints_len] at *; omega) | (simp; omega))) | ((with_reducible refine (?_ : (_ : Nat) ≤ _)); (first | omega | (simp only [List.length_cons, List.length_nil]; omega) | (simp [ints]; done) | (simp; omega))) | ((with_reducible refine (?_ : (_ : Nat) < _)); (first | omega | (simp only [List.length_cons, List.length_nil]; omega) | (simp [ints]; done) | (simp; omega))) | ((with_reducible refine (?_ : (_ : Nat) = _)); (first | (with_reducible rfl) | (simp; done) | (simp only [fr_len]) | (simp only [ints_len]) | omega | (simp [*]; done))) | (refine And.intro ?_ ?_) | (intro h; first | (exact Bool.noConfusion h) | ((simp only [decide_eq_true_eq, decide_eq_false_iff_not, beq_iff_eq, bne_iff_ne, ne_eq, beq_eq_false_iff_ne, bne_eq_false_iff_eq, Bool.not_eq_true', Bool.not_eq_false', Bool.not_eq_true, Bool.not_eq_false, Int.not_le, Int.not_lt, Bool.and_eq_true, Bool.or_eq_true, Bool.or_eq_false_iff, Bool.and_eq_false_iff] at h); (try (first | (exact Bool.noConfusion h) | (exact (h trivial).elim)))) | skip) | ((with_reducible refine (?_ : chk _ _ = true)); kernel_rfl) | ((with_reducible refine (?_ : (_ : IntKind) = _)); (with_reducible rfl)) | ((with_reducible refine (?_ : eqC (C.pvw _ _ _) (C.pvw _ _ _))); exact rfl) | ((with_reducible refine (?_ : eqC (C.pv (Value.int IntKind.u64 _)) _)); exact rfl) | exact trivial)
      · rw [hf]; simp; omega
      · rw [hf, pts_app, pts_app, List.take_length]; simp [pts]
    · rename_i q1 hq1 hle hne
      have e2 : q = q1 := by rw [hq] at hq1; exact Option.some.inj hq1
      subst e2
      have hf := fin (.inl ⟨_, hq, by simp [ltP]; omega⟩)
      clear fin nx
      refine ⟨0, i.toNat, by omega, by rw [pts_len]; omega, rfl, ie, ?_⟩
      repeat' (first | ((with_reducible refine (?_ : (_ : Bool) = _)); (with_reducible rfl)) | ((with_reducible refine (?_ : (_ : Nat × Nat) = _)); (with_reducible rfl)) | (with_reducible refine leafRI ?_) | (with_reducible refine leafRB ?_) | (with_reducible refine leafI ?_) | (with_reducible refine leafB ?_) | ((with_reducible refine (?_ : (_ : Int) = _)); (with_reducible rfl)) | ((with_reducible refine (?_ : (_ : List (List Value)) = _)); (with_reducible rfl)) | ((with_reducible refine (?_ : (_ : Int) ≠ 0)); (first | assumption | omega | (simp; done) | (simp only [ints_len] at *; omega) | (simp; omega))) | ((with_reducible refine (?_ : (_ : Int) ≤ _)); (first | assumption | omega | (simp; done) | (simp only [ints_len] at *; omega) | (simp; omega))) | ((with_reducible refine (?_ : (_ : Int) < _)); (first | assumption | omega | (simp; done) | (simp only [ints_len] at *; omega) | (simp; omega))) | ((with_reducible refine (?_ : (_ : Nat) ≤ _)); (first | omega | (simp only [List.length_cons, List.length_nil]; omega) | (simp [ints]; done) | (simp; omega))) | ((with_reducible refine (?_ : (_ : Nat) < _)); (first | omega | (simp only [List.length_cons, List.length_nil]; omega) | (simp [ints]; done) | (simp; omega))) | ((with_reducible refine (?_ : (_ : Nat) = _)); (first | (with_reducible rfl) | (simp; done) | (simp only [fr_len]) | (simp only [ints_len]) | omega | (simp [*]; done))) | (refine And.intro ?_ ?_) | (intro h; first | (exact Bool.noConfusion h) | ((simp only [decide_eq_true_eq, decide_eq_false_iff_not, beq_iff_eq, bne_iff_ne, ne_eq, beq_eq_false_iff_ne, bne_eq_false_iff_eq, Bool.not_eq_true', Bool.not_eq_false', Bool.not_eq_true, Bool.not_eq_false, Int.not_le, Int.not_lt, Bool.and_eq_true, Bool.or_eq_true, Bool.or_eq_false_iff, Bool.and_eq_false_iff] at h); (try (first | (exact Bool.noConfusion h) | (exact (h trivial).elim)))) | skip) | ((with_reducible refine (?_ : chk _ _ = true)); kernel_rfl) | ((with_reducible refine (?_ : (_ : IntKind) = _)); (with_reducible rfl)) | ((with_reducible refine (?_ : eqC (C.pvw _ _ _) (C.pvw _ _ _))); exact rfl) | ((with_reducible refine (?_ : eqC (C.pv (Value.int IntKind.u64 _)) _)); exact rfl) | exact trivial)
      refine ⟨i.toNat, (pts l).length, by rw [pts_len]; omega, Nat.le_refl _, ie, rfl, ?_⟩
      repeat' (first | ((with_reducible refine (?_ : (_ : Bool) = _)); (with_reducible rfl)) | ((with_reducible refine (?_ : (_ : Nat × Nat) = _)); (with_reducible rfl)) | (with_reducible refine leafRI ?_) | (with_reducible refine leafRB ?_) | (with_reducible refine leafI ?_) | (with_reducible refine leafB ?_) | ((with_reducible refine (?_ : (_ : Int) = _)); (with_reducible rfl)) | ((with_reducible refine (?_ : (_ : List (List Value)) = _)); (with_reducible rfl)) | ((with_reducible refine (?_ : (_ : Int) ≠ 0)); (first | assumption | omega | (simp; done) | (simp only [ints_len] at *; omega) | (simp; omega))) | ((with_reducible refine (?_ : (_ : Int) ≤ _)); (first | assumption | omega | (simp; done) | (simp only [ints_len] at *; omega) | (simp; omega))) | ((with_reducible refine (?_ : (_ : Int) < _)); (first | assumption | omega | (simp; done) | (simp only [ints_len] at *; omega) | (simp; omega))) | ((with_reducible refine (?_ : (_ : Nat) ≤ _)); (first | omega | (simp only [List.length_cons, List.length_nil]; omega) | (simp [ints]; done) | (simp; omega))) | ((with_reducible refine (?_ : (_ : Nat) < _)); (first | omega | (simp only [List.length_cons, List.length_nil]; omega) | (simp [ints]; done) | (simp; omega))) | ((with_reducible refine (?_ : (_ : Nat) = _)); (first | (with_reducible rfl) | (simp; done) | (simp only [fr_len]) | (simp only [ints_len]) | omega | (simp [*]; done))) | (refine And.intro ?_ ?_) | (intro h; first | (exact Bool.noConfusion h) | ((simp only [decide_eq_true_eq, decide_eq_false_iff_not, beq_iff_eq, bne_iff_ne, ne_eq, beq_eq_false_iff_ne, bne_eq_false_iff_eq, Bool.not_eq_true', Bool.not_eq_false', Bool.not_eq_true, Bool.not_eq_false, Int.not_le, Int.not_lt, Bool.and_eq_true, Bool.or_eq_true, Bool.or_eq_false_iff, Bool.and_eq_false_iff] at h); (try (first | (exact Bool.noConfusion h) | (exact (h trivial).elim)))) | skip) | ((with_reducible refine (?_ : chk _ _ = true)); kernel_rfl) | ((with_reducible refine (?_ : (_ : IntKind) = _)); (with_reducible rfl)) | ((with_reducible refine (?_ : eqC (C.pvw _ _ _) (C.pvw _ _ _))); exact rfl) | ((with_reducible refine (?_ : eqC (C.pv (Value.int IntKind.u64 _)) _)); exact rfl) | exact trivial)
      · rw [hf]; simp; omega
      · rw [hf, pts_app, pts_app, List.take_length]; simp [pts]
    · have hf := fin (.inr (by omega))
      clear fin nx
      refine ⟨0, i.toNat, by omega, by rw [pts_len]; omega, rfl, ie, ?_⟩
      repeat' (first | ((with_reducible refine (?_ : (_ : Bool) = _)); (with_reducible rfl)) | ((with_reducible refine (?_ : (_ : Nat × Nat) = _)); (with_reducible rfl)) | (with_reducible refine leafRI ?_) | (with_reducible refine leafRB ?_) | (with_reducible refine leafI ?_) | (with_reducible refine leafB ?_) | ((with_reducible refine (?_ : (_ : Int) = _)); (with_reducible rfl)) | ((with_reducible refine (?_ : (_ : List (List Value)) = _)); (with_reducible rfl)) | ((with_reducible refine (?_ : (_ : Int) ≠ 0)); (first | assumption | omega | (simp; done) | (simp only [ints_len] at *; omega) | (simp; omega))) | ((with_reducible refine (?_ : (_ : Int) ≤ _)); (first | assumption | omega | (simp; done) | (simp only [ints_len] at *; omega) | (simp; omega))) | ((with_reducible refine (?_ : (_ : Int) < _)); (first | assumption | omega | (simp; done) | (simp only [ints_len] at *; omega) | (simp; omega))) | ((with_reducible refine (?_ : (_ : Nat) ≤ _)); (first | omega | (simp only [List.length_cons, List.length_nil]; omega) | (simp [ints]; done) | (simp; omega))) | ((with_reducible refine (?_ : (_ : Nat) < _)); (first | omega | (simp only [List.length_cons, List.length_nil]; omega) | (simp [ints]; done) | (simp; omega))) | ((with_reducible refine (?_ : (_ : Nat) = _)); (first | (with_reducible rfl) | (simp; done) | (simp only [fr_len]) | (simp only [ints_len]) | omega | (simp [*]; done))) | (refine And.intro ?_ ?_) | (intro h; first | (exact Bool.noConfusion h) | ((simp only [decide_eq_true_eq, decide_eq_false_iff_not, beq_iff_eq, bne_iff_ne, ne_eq, beq_eq_false_iff_ne, bne_eq_false_iff_eq, Bool.not_eq_true', Bool.not_eq_false', Bool.not_eq_true, Bool.not_eq_false, Int.not_le, Int.not_lt, Bool.and_eq_true, Bool.or_eq_true, Bool.or_eq_false_iff, Bool.and_eq_false_iff] at h); (try (first | (exact Bool.noConfusion h) | (exact (h trivial).elim)))) | skip) | ((with_reducible refine (?_ : chk _ _ = true)); kernel_rfl) | ((with_reducible refine (?_ : (_ : IntKind) = _)); (with_reducible rfl)) | ((with_reducible refine (?_ : eqC (C.pvw _ _ _) (C.pvw _ _ _))); exact rfl) | ((with_reducible refine (?_ : eqC (C.pv (Value.int IntKind.u64 _)) _)); exact rfl) | exact trivial)
      refine ⟨i.toNat, (pts l).length, by rw [pts_len]; omega, Nat.le_refl _, ie, rfl, ?_⟩
      repeat' (first | ((with_reducible refine (?_ : (_ : Bool) = _)); (with_reducible rfl)) | ((with_reducible refine (?_ : (_ : Nat × Nat) = _)); (with_reducible rfl)) | (with_reducible refine leafRI ?_) | (with_reducible refine leafRB ?_) | (with_reducible refine leafI ?_) | (with_reducible refine leafB ?_) | ((with_reducible refine (?_ : (_ : Int) = _)); (with_reducible rfl)) | ((with_reducible refine (?_ : (_ : List (List Value)) = _)); (with_reducible rfl)) | ((with_reducible refine (?_ : (_ : Int) ≠ 0)); (first | assumption | omega | (simp; done) | (simp only [ints_len] at *; omega) | (simp; omega))) | ((with_reducible refine (?_ : (_ : Int) ≤ _)); (first | assumption | omega | (simp; done) | (simp only [ints_len] at *; omega) | (simp; omega))) | ((with_reducible refine (?_ : (_ : Int) < _)); (first | assumption | omega | (simp; done) | (simp only [ints_len] at *; omega) | (simp; omega))) | ((with_reducible refine (?_ : (_ : Nat) ≤ _)); (first | omega | (simp only [List.length_cons, List.length_nil]; omega) | (simp [ints]; done) | (simp; omega))) | ((with_reducible refine (?_ : (_ : Nat) < _)); (first | omega | (simp only [List.length_cons, List.length_nil]; omega) | (simp [ints]; done) | (simp; omega))) | ((with_reducible refine (?_ : (_ : Nat) = _)); (first | (with_reducible rfl) | (simp; done) | (simp only [fr_len]) | (simp only [ints_len]) | omega | (simp [*]; done))) | (refine And.intro ?_ ?_) | (intro h; first | (exact Bool.noConfusion h) | ((simp only [decide_eq_true_eq, decide_eq_false_iff_not, beq_iff_eq, bne_iff_ne, ne_eq, beq_eq_false_iff_ne, bne_eq_false_iff_eq, Bool.not_eq_true', Bool.not_eq_false', Bool.not_eq_true, Bool.not_eq_false, Int.not_le, Int.not_lt, Bool.and_eq_true, Bool.or_eq_true, Bool.or_eq_false_iff, Bool.and_eq_false_iff] at h); (try (first | (exact Bool.noConfusion h) | (exact (h trivial).elim)))) | skip) | ((with_reducible refine (?_ : chk _ _ = true)); kernel_rfl) | ((with_reducible refine (?_ : (_ : IntKind) = _)); (with_reducible rfl)) | ((with_reducible refine (?_ : eqC (C.pvw _ _ _) (C.pvw _ _ _))); exact rfl) | ((with_reducible refine (?_ : eqC (C.pv (Value.int IntKind.u64 _)) _)); exact rfl) | exact trivial)
      · rw [hf]; simp; omega
      · rw [hf, pts_app, pts_app, List.take_length]; simp [pts]

theorem spec_vaPutI (l : List P2) (a b : Int) (hl : l.length ≤ 1000000000) : AFun Try.prog 60 [] [Vp l, .agg [cI a, cI b]] (.c (.slc (0, 0) (insP (a, b) l).length)) [] [FP (insP (a, b) l)] := spec_vaPut l (a, b) hl

/-! the points of x * x + n * y * y = m, y below Y -/
def ipB (n m : Int) : Nat → List P2
  | 0 => []
  | k + 1 => if isSq (m - n * k * k) then (rt (m - n * k * k), (k : Int)) :: ipB n m k else ipB n m k
theorem ipB_mem {n m : Int} : ∀ {k : Nat} {q : P2}, q ∈ ipB n m k → ∃ j : Nat, j < k ∧ isSq (m - n * j * j) = true ∧ q = (rt (m - n * j * j), (j : Int))
  | 0, q, h => by simp [ipB] at h
  | k + 1, q, h => by
    simp only [ipB] at h
    split at h
    · rcases List.mem_cons.1 h with h | h
      · exact ⟨k, by omega, by assumption, h⟩
      · obtain ⟨j, h1, h2⟩ := ipB_mem h; exact ⟨j, by omega, h2⟩
    · obtain ⟨j, h1, h2⟩ := ipB_mem h; exact ⟨j, by omega, h2⟩
theorem ipB_len (n m : Int) : ∀ k, (ipB n m k).length ≤ k
  | 0 => Nat.le_refl _
  | k + 1 => by have := ipB_len n m k; simp only [ipB]; split <;> simp <;> omega
theorem rt_down {n m : Int} (hn : 1 ≤ n) {j k : Nat} (h : j < k) (h1 : isSq (m - n * j * j) = true) (h2 : isSq (m - n * k * k) = true) : rt (m - n * k * k) < rt (m - n * j * j) := by
  obtain ⟨a1, a2⟩ := isSq_iff.1 h1
  obtain ⟨b1, b2⟩ := isSq_iff.1 h2
  apply sq_lt (rt_spec a1).1
  rw [a2, b2]
  have e1 : (j : Int) * j < k * k := by
    have := Int.mul_le_mul (show (j : Int) + 1 ≤ k by omega) (show (j : Int) + 1 ≤ k by omega) (by omega) (by omega)
    have : ((j : Int) + 1) * (j + 1) = j * j + 2 * j + 1 := by grind
    omega
  have e2 : n * (j * j) < n * (k * k) := Int.mul_lt_mul_of_pos_left e1 (by omega)
  rw [Int.mul_assoc, Int.mul_assoc]
  omega
theorem ipB_ins {n m : Int} (hn : 1 ≤ n) {k : Nat} (h : isSq (m - n * k * k) = true) : insP (rt (m - n * k * k), (k : Int)) (ipB n m k) = ipB n m (k + 1) := by
  rw [ipB, if_pos h, insP_front]
  intro q hq
  obtain ⟨j, h1, h2, rfl⟩ := ipB_mem hq
  have := rt_down hn h1 h2 h
  simp [ltP]; omega
/-- How many y are tried. -/
def ipN (n m : Int) : Int := rt (m / n) + 1
theorem ipN_iff {n m y : Int} (hn : 1 ≤ n) (hm : 0 ≤ m) (hy : 0 ≤ y) : n * y * y ≤ m ↔ y < ipN n m := by
  have h0 : 0 ≤ m / n := Int.ediv_nonneg hm (by omega)
  rw [Int.mul_assoc, Int.mul_comm n, ← Int.le_ediv_iff_mul_le (by omega), ← le_rt h0 hy, ipN]
  omega

/-! Cornacchia -/
def cnF (n p y : Int) : Bool := isSq (p - n * y * y)
theorem find_snoc {f : Int → Bool} : ∀ (N : Nat) (i : Int), find f (N + 1) i = match find f N i with | some r => some r | none => if f (i + N) then some (i + N) else none
  | 0, i => by simp [find]
  | N + 1, i => by
    rw [find]
    by_cases h : f i = true
    · rw [if_pos h, find, if_pos h]
    · rw [if_neg h, find_snoc N (i + 1), find, if_neg h, show i + 1 + (N : Int) = i + ((N + 1 : Nat) : Int) by omega]
/-- The last of the points is the first that is found. -/
theorem ipB_last {n p : Int} : ∀ N : Nat, (ipB n p N).getLast? = (find (cnF n p) N 0).map fun y => (rt (p - n * y * y), y)
  | 0 => rfl
  | N + 1 => by
    have ih := ipB_last (n := n) (p := p) N
    rw [find_snoc, ipB, show (0 : Int) + N = N by omega]
    cases hf : find (cnF n p) N 0 with
    | some r =>
      rw [hf] at ih
      split
      · rw [List.getLast?_cons, ih]; rfl
      · exact ih
    | none =>
      rw [hf] at ih
      have hn : ipB n p N = [] := List.getLast?_eq_none_iff.1 ih
      rw [hn]
      by_cases h : isSq (p - n * N * N) = true
      · rw [if_pos h]; simp [cnF, h]
      · rw [if_neg h]; simp [cnF, h]
noncomputable def coG (n p : Int) : Bool := decide (1 ≤ n) && decide (n ≤ 500) && shp p
noncomputable def coO (n p : Int) : Option Int := if coG n p then find (cnF n p) (ipN n p).toNat 0 else none
noncomputable def coX (n p : Int) : Int × Int := match coO n p with
  | some y => (rt (p - n * y * y), y)
  | none => (0, 0)
abbrev P2b (x y : Int) (b : Bool) : V := .tup [(false, [cI x]), (false, [cI y]), (false, [cB b])]

theorem coG_bd {n p : Int} (h : coG n p = true) : 1 ≤ n ∧ n ≤ 500 ∧ 2 ≤ p ∧ p ≤ 10000 ∧ shp p = true ∧ 0 ≤ ipN n p ∧ ipN n p ≤ 10001 := by
  have hs : 1 ≤ n ∧ n ≤ 500 ∧ shp p = true := by unfold coG at h; grind
  have h3 := shp_ge hs.2.2
  have e0 : 0 ≤ p / n := Int.ediv_nonneg (by omega) (by omega)
  have e1 : p / n ≤ p := Int.ediv_le_self _ (by omega)
  have e2 := rt_le e0
  have e3 := (rt_spec e0).1
  unfold ipN
  exact ⟨hs.1, hs.2.1, h3.1, h3.2, hs.2.2, by omega, by omega⟩
theorem coX_no {n p : Int} (h : coO n p = none) : (coX n p).1 = 0 ∧ (coX n p).2 = 0 ∧ (coO n p).isSome = false := by simp [coX, h]
theorem coX_yes {n p y : Int} (h : coO n p = some y) : (coX n p).1 = rt (p - n * y * y) ∧ (coX n p).2 = y ∧ (coO n p).isSome = true := by simp [coX, h]

end Go.Proofs.Ytemlkfcbcphenaa
