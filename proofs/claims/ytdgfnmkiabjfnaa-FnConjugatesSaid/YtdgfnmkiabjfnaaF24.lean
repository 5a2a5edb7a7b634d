/- Reduction of definite forms: the walks; AreEquivalent, ReductionTrail. -/
import Derived.Test.YtdgfnmkiabjfnaaF23
import Derived.Test.YtdgfnmkiabjfnaaG1
namespace Go.Proofs.Ytdgfnmkiabjfnaa
set_option linter.unusedSimpArgs false
set_option linter.unusedVariables false
open Go.RowKit
set_option maxRecDepth 100000
set_option maxHeartbeats 2000000

def redT (f : T3) : Bool := red f.1 f.2.1 f.2.2
def rdS : Nat → T3 → T4 → T3 × T4
  | 0, f, m => (f, m)
  | k + 1, f, m => if redT f then (f, m) else rdS k (nxF f) (mulT m (stp f.1 f.2.1 f.2.2))
theorem mr_zero {f : T3} : mr f = 0 → redT f = true := fun h => by
  unfold mr at h
  split at h
  · assumption
  · split at h <;> omega
theorem nx_gd' {f : T3} (h : gd f) (hr : redT f = false) : gd (nxF f) ∧ mr (nxF f) < mr f := by
  obtain ⟨a, b, c⟩ := f
  exact nx_gd h hr
theorem rdS_fuel : ∀ (k j : Nat) (f : T3) (m : T4), gd f → mr f ≤ k → mr f ≤ j → rdS k f m = rdS j f m
  | 0, 0, f, m, _, _, _ => rfl
  | 0, j + 1, f, m, h, h1, h2 => by simp only [rdS]; rw [if_pos (mr_zero (by omega))]
  | k + 1, 0, f, m, h, h1, h2 => by simp only [rdS]; rw [if_pos (mr_zero (by omega))]
  | k + 1, j + 1, f, m, h, h1, h2 => by
    simp only [rdS]
    split
    · rfl
    · rename_i hr
      obtain ⟨g1, g2⟩ := nx_gd' h (by simpa using hr)
      exact rdS_fuel k j _ _ g1 (by omega) (by omega)
def rdM (f : T3) (m : T4) : T3 × T4 := rdS (mr f) f m
theorem rdM_step {f : T3} {m : T4} (h : gd f) (hr : redT f = false) : rdM f m = rdM (nxF f) (mulT m (stp f.1 f.2.1 f.2.2)) := by
  obtain ⟨g1, g2⟩ := nx_gd' h hr
  obtain ⟨k, hk⟩ : ∃ k, mr f = k + 1 := ⟨mr f - 1, by omega⟩
  rw [rdM, hk, rdS, if_neg (by simp [hr]), rdM]
  exact rdS_fuel _ _ _ _ g1 (by omega) (by omega)
theorem rdM_stop {f : T3} {m : T4} (hr : redT f = true) : rdM f m = (f, m) := by
  rw [rdM]
  cases h : mr f with
  | zero => rfl
  | succ k => rw [rdS, if_pos hr]
abbrev c3 (f : T3) : List C := [cI f.1, cI f.2.1, cI f.2.2]
abbrev c4 (m : T4) : List C := [cI m.1, cI m.2.1, cI m.2.2.1, cI m.2.2.2]
def rdR (f : T3) : T3 × T4 := rdM f (1, 0, 0, 1)


theorem spec_reReduce (a b c : Int) (h : gd (a, b, c)) : AFun Try.prog 76 [] [Fo a b c] (.tup [(true, c3 (rdR (a, b, c)).1), (true, c4 (rdR (a, b, c)).2)]) [] [] := by
  refine afun_intro fn76 rfl rfl (by repeat' (first | exact trivial | (simp; done) | refine ⟨?_, ?_⟩)) ?_
  unfold ac76
  repeat' (first | ((with_reducible refine (?_ : (_ : Bool) = _)); (with_reducible rfl)) | ((with_reducible refine (?_ : (_ : Nat × Nat) = _)); (with_reducible rfl)) | (with_reducible refine leafRI ?_) | (with_reducible refine leafRB ?_) | (with_reducible refine leafI ?_) | (with_reducible refine leafB ?_) | ((with_reducible refine (?_ : (_ : Int) = _)); (with_reducible rfl)) | ((with_reducible refine (?_ : (_ : List (List Value)) = _)); (with_reducible rfl)) | ((with_reducible refine (?_ : (_ : Int) ≠ 0)); (first | assumption | omega | (simp; done) | (simp only [ints_len] at *; omega) | (simp; omega))) | ((with_reducible refine (?_ : (_ : Int) ≤ _)); (first | assumption | omega | (simp; done) | (simp only [ints_len] at *; omega) | (simp; omega))) | ((with_reducible refine (?_ : (_ : Int) < _)); (first | assumption | omega | (simp; done) | (simp only [ints_len] at *; omega) | (simp; omega))) | ((with_reducible refine (?_ : (_ : Nat) ≤ _)); (first | omega | (simp only [List.length_cons, List.length_nil]; omega) | (simp [ints]; done) | (simp; omega))) | ((with_reducible refine (?_ : (_ : Nat) < _)); (first | omega | (simp only [List.length_cons, List.length_nil]; omega) | (simp [ints]; done) | (simp; omega))) | ((with_reducible refine (?_ : (_ : Nat) = _)); (first | (with_reducible rfl) | (simp; done) | (simp only [fr_len]) | (simp only [ints_len]) | omega | (simp [*]; done))) | (refine And.intro ?_ ?_) | (intro h; first | (exact Bool.noConfusion h) | ((simp only [decide_eq_true_eq, decide_eq_false_iff_not, beq_iff_eq, bne_iff_ne, ne_eq, beq_eq_false_iff_ne, bne_eq_false_iff_eq, Bool.not_eq_true', Bool.not_eq_false', Bool.not_eq_true, Bool.not_eq_false, Int.not_le, Int.not_lt, Bool.and_eq_true, Bool.or_eq_true, Bool.or_eq_false_iff, Bool.and_eq_false_iff] at h); (try (first | (exact Bool.noConfusion h) | (exact (h trivial).elim)))) | skip) | ((refine (?_ : ACall _ _ _ _ _ _ _)); first | ((apply acall (impl_one)); (focus (repeat' (first | exact rfl | (refine And.intro ?_ ?_) | (simp only [ints_len]; done) | (simp; done) | omega))))) | ((with_reducible refine (?_ : chk _ _ = true)); kernel_rfl) | ((with_reducible refine (?_ : (_ : IntKind) = _)); (with_reducible rfl)) | ((with_reducible refine (?_ : eqC (C.pvw _ _ _) (C.pvw _ _ _))); exact rfl) | ((with_reducible refine (?_ : eqC (C.pv (Value.int IntKind.u64 _)) _)); exact rfl) | exact trivial)
  refine loop_rule (σ := T3 × T4) (fun s => []) (fun s => [((1, 0), .bx (c3 s.1)), ((2, 0), .bx [cI 0, cI 0, cI 0]), ((3, 0), .bx [cI 0, cI 0, cI 0, cI 0]), ((4, 0), .bx (c4 s.2))]) (fun s => gd s.1 ∧ rdM s.1 s.2 = rdR (a, b, c)) (fun s => mr s.1) (((a, b, c), (1, 0, 0, 1))) ?_ (by repeat' (first | exact trivial | exact rfl | (refine And.intro ?_ ?_))) (by repeat' (first | exact trivial | exact rfl | (refine And.intro ?_ ?_))) (fun s => ⟨rfl, rfl⟩) (fun s i h => by first | exact absurd h (Nat.not_lt_zero i) | (cases i with | zero => rfl | succ i => exact absurd (Nat.lt_of_succ_lt_succ h) (Nat.not_lt_zero i))) ?_
  · exact ⟨h, rfl⟩
  · rintro ⟨⟨x, y, z⟩, ⟨p, q, r, s⟩⟩ ⟨g1, g2⟩
    dsimp only at g1 g2 ⊢
    have hb : 1 ≤ x ∧ x ≤ 1000000 ∧ -3000000 ≤ y ∧ y ≤ 3000000 := ⟨g1.1, g1.2.1, g1.2.2.1, g1.2.2.2.1⟩
    have hst : red x y z = true → rdR (a, b, c) = ((x, y, z), (p, q, r, s)) := fun hr => by rw [← g2]; exact rdM_stop hr
    repeat' (first | ((with_reducible refine (?_ : (_ : Bool) = _)); (with_reducible rfl)) | ((with_reducible refine (?_ : (_ : Nat × Nat) = _)); (with_reducible rfl)) | (with_reducible refine leafRI ?_) | (with_reducible refine leafRB ?_) | (with_reducible refine leafI ?_) | (with_reducible refine leafB ?_) | ((with_reducible refine (?_ : (_ : Int) = _)); (with_reducible rfl)) | ((with_reducible refine (?_ : (_ : List (List Value)) = _)); (with_reducible rfl)) | ((with_reducible refine (?_ : (_ : Int) ≠ 0)); (first | assumption | omega | (simp; done) | (simp only [ints_len] at *; omega) | (simp; omega))) | ((with_reducible refine (?_ : (_ : Int) ≤ _)); (first | assumption | omega | (simp; done) | (simp only [ints_len] at *; omega) | (simp; omega))) | ((with_reducible refine (?_ : (_ : Int) < _)); (first | assumption | omega | (simp; done) | (simp only [ints_len] at *; omega) | (simp; omega))) | ((with_reducible refine (?_ : (_ : Nat) ≤ _)); (first | omega | (simp only [List.length_cons, List.length_nil]; omega) | (simp [ints]; done) | (simp; omega))) | ((with_reducible refine (?_ : (_ : Nat) < _)); (first | omega | (simp only [List.length_cons, List.length_nil]; omega) | (simp [ints]; done) | (simp; omega))) | ((with_reducible refine (?_ : (_ : Nat) = _)); (first | (with_reducible rfl) | (simp; done) | (simp only [fr_len]) | (simp only [ints_len]) | omega | (simp [*]; done))) | (refine And.intro ?_ ?_) | (intro h; first | (exact Bool.noConfusion h) | ((simp only [decide_eq_true_eq, decide_eq_false_iff_not, beq_iff_eq, bne_iff_ne, ne_eq, beq_eq_false_iff_ne, bne_eq_false_iff_eq, Bool.not_eq_true', Bool.not_eq_false', Bool.not_eq_true, Bool.not_eq_false, Int.not_le, Int.not_lt, Bool.and_eq_true, Bool.or_eq_true, Bool.or_eq_false_iff, Bool.and_eq_false_iff] at h); (try (first | (exact Bool.noConfusion h) | (exact (h trivial).elim)))) | skip) | ((refine (?_ : ACall _ _ _ _ _ _ _)); first | ((apply acall (spec_reIs _ _ _ ?_ ?_)); (focus (repeat' (first | exact rfl | (refine And.intro ?_ ?_) | (simp only [ints_len]; done) | (simp; done) | omega)))) | ((apply acall (spec_reMove _ _ _ ?_ ?_ ?_ ?_)); (focus (repeat' (first | exact rfl | (refine And.intro ?_ ?_) | (simp only [ints_len]; done) | (simp; done) | omega)))) | ((apply acall (spec_foAct _ _ _ _ _ _ _)); (focus (repeat' (first | exact rfl | (refine And.intro ?_ ?_) | (simp only [ints_len]; done) | (simp; done) | omega)))) | ((apply acall (spec_foMul _ _ _ _ _ _ _ _)); (focus (repeat' (first | exact rfl | (refine And.intro ?_ ?_) | (simp only [ints_len]; done) | (simp; done) | omega))))) | ((with_reducible refine (?_ : chk _ _ = true)); kernel_rfl) | ((with_reducible refine (?_ : (_ : IntKind) = _)); (with_reducible rfl)) | ((with_reducible refine (?_ : eqC (C.pvw _ _ _) (C.pvw _ _ _))); exact rfl) | ((with_reducible refine (?_ : eqC (C.pv (Value.int IntKind.u64 _)) _)); exact rfl) | exact trivial)
    any_goals (rw [hst h]; done)
    · have hr : redT (x, y, z) = false := h
      obtain ⟨k1, k2⟩ := nx_gd' g1 hr
      refine ⟨(nxF (x, y, z), mulT (p, q, r, s) (stp x y z)), ?_, ?_, none, And.intro rfl (And.intro (by repeat' (first | exact trivial | exact rfl | (refine And.intro ?_ ?_))) (by repeat' (first | exact trivial | exact rfl | (refine And.intro ?_ ?_))))⟩
      · exact ⟨k1, by rw [← g2, rdM_step g1 hr]⟩
      · exact k2


structure Gd (f : T3) : Prop where
  out : gd f

theorem spec_reClass (a b c : Int) (h : Gd (a, b, c)) : AFun Try.prog 60 [] [Fo a b c] (.agg (c3 (rdR (a, b, c)).1)) [] [] := by
  refine afun_intro fn60 rfl rfl (by repeat' (first | exact trivial | (simp; done) | refine ⟨?_, ?_⟩)) ?_
  unfold ac60
  repeat' (first | ((with_reducible refine (?_ : (_ : Bool) = _)); (with_reducible rfl)) | ((with_reducible refine (?_ : (_ : Nat × Nat) = _)); (with_reducible rfl)) | (with_reducible refine leafRI ?_) | (with_reducible refine leafRB ?_) | (with_reducible refine leafI ?_) | (with_reducible refine leafB ?_) | ((with_reducible refine (?_ : (_ : Int) = _)); (with_reducible rfl)) | ((with_reducible refine (?_ : (_ : List (List Value)) = _)); (with_reducible rfl)) | ((with_reducible refine (?_ : (_ : Int) ≠ 0)); (first | assumption | omega | (simp; done) | (simp only [ints_len] at *; omega) | (simp; omega))) | ((with_reducible refine (?_ : (_ : Int) ≤ _)); (first | assumption | omega | (simp; done) | (simp only [ints_len] at *; omega) | (simp; omega))) | ((with_reducible refine (?_ : (_ : Int) < _)); (first | assumption | omega | (simp; done) | (simp only [ints_len] at *; omega) | (simp; omega))) | ((with_reducible refine (?_ : (_ : Nat) ≤ _)); (first | omega | (simp only [List.length_cons, List.length_nil]; omega) | (simp [ints]; done) | (simp; omega))) | ((with_reducible refine (?_ : (_ : Nat) < _)); (first | omega | (simp only [List.length_cons, List.length_nil]; omega) | (simp [ints]; done) | (simp; omega))) | ((with_reducible refine (?_ : (_ : Nat) = _)); (first | (with_reducible rfl) | (simp; done) | (simp only [fr_len]) | (simp only [ints_len]) | omega | (simp [*]; done))) | (refine And.intro ?_ ?_) | (intro h; first | (exact Bool.noConfusion h) | ((simp only [decide_eq_true_eq, decide_eq_false_iff_not, beq_iff_eq, bne_iff_ne, ne_eq, beq_eq_false_iff_ne, bne_eq_false_iff_eq, Bool.not_eq_true', Bool.not_eq_false', Bool.not_eq_true, Bool.not_eq_false, Int.not_le, Int.not_lt, Bool.and_eq_true, Bool.or_eq_true, Bool.or_eq_false_iff, Bool.and_eq_false_iff] at h); (try (first | (exact Bool.noConfusion h) | (exact (h trivial).elim)))) | skip) | ((refine (?_ : ACall _ _ _ _ _ _ _)); first | ((apply acall (spec_reReduce _ _ _ h.out)); (focus (repeat' (first | exact rfl | (refine And.intro ?_ ?_) | (simp only [ints_len]; done) | (simp; done) | omega))))) | ((with_reducible refine (?_ : chk _ _ = true)); kernel_rfl) | ((with_reducible refine (?_ : (_ : IntKind) = _)); (with_reducible rfl)) | ((with_reducible refine (?_ : eqC (C.pvw _ _ _) (C.pvw _ _ _))); exact rfl) | ((with_reducible refine (?_ : eqC (C.pv (Value.int IntKind.u64 _)) _)); exact rfl) | exact trivial)


def aeB (f g : T3) : Bool := dfn f.1 f.2.1 f.2.2 && dfn g.1 g.2.1 g.2.2
def aeE (f g : T3) : Bool := aeB f g && decide ((rdR f).1 = (rdR g).1)
abbrev PBB (x y : Bool) : V := .tup [(false, [cB x]), (false, [cB y])]

/-! ReductionTrail -/
def trS : Nat → T3 → List T3
  | 0, _ => []
  | k + 1, f => if redT f then [] else nxF f :: trS k (nxF f)
theorem trS_fuel : ∀ (k j : Nat) (f : T3), gd f → mr f ≤ k → mr f ≤ j → trS k f = trS j f
  | 0, 0, f, _, _, _ => rfl
  | 0, j + 1, f, h, h1, h2 => by simp only [trS]; rw [if_pos (mr_zero (by omega))]
  | k + 1, 0, f, h, h1, h2 => by simp only [trS]; rw [if_pos (mr_zero (by omega))]
  | k + 1, j + 1, f, h, h1, h2 => by
    simp only [trS]
    split
    · rfl
    · rename_i hr
      obtain ⟨g1, g2⟩ := nx_gd' h (by simpa using hr)
      rw [trS_fuel k j _ g1 (by omega) (by omega)]
theorem trS_len : ∀ (k : Nat) (f : T3), (trS k f).length ≤ k
  | 0, f => Nat.le_refl _
  | k + 1, f => by
    simp only [trS]
    split
    · simp
    · have := trS_len k (nxF f); simp; omega
def trF (f : T3) : List T3 := trS (mr f) f
theorem trF_step {f : T3} (h : gd f) (hr : redT f = false) : trF f = nxF f :: trF (nxF f) := by
  obtain ⟨g1, g2⟩ := nx_gd' h hr
  obtain ⟨k, hk⟩ : ∃ k, mr f = k + 1 := ⟨mr f - 1, by omega⟩
  rw [trF, hk, trS, if_neg (by simp [hr]), trF]
  rw [trS_fuel k (mr (nxF f)) _ g1 (by omega) (by omega)]
theorem trF_stop {f : T3} (hr : redT f = true) : trF f = [] := by
  rw [trF]
  cases h : mr f with
  | zero => rfl
  | succ k => rw [trS, if_pos hr]
theorem mr_bd {f : T3} (h : gd f) : mr f ≤ 3000002 := by
  have := h.1
  have := h.2.1
  unfold mr
  split
  · omega
  · split <;> omega
def rtG (f : T3) : Bool := dfn f.1 f.2.1 f.2.2
def rtL (f : T3) : List T3 := if rtG f then f :: trF f else []

end Go.Proofs.Ytdgfnmkiabjfnaa
