/- Cycles of indefinite forms: the next form, reduction, the cycle. -/
import Derived.Test.YtnlabjnjcfapiaaH7
namespace Go.Proofs.Ytnlabjnjcfapiaa
open Go.RowKit
set_option linter.unusedSimpArgs false
set_option linter.unusedVariables false
set_option maxRecDepth 100000
set_option maxHeartbeats 2000000

/-- The step's matrix. -/
def cmM (r : Int) (f : T3) : T4 := (0, -1, 1, cme r f)
/-- What the machine makes of a form by the step's matrix. -/
theorem act_cnx {D : Int} {f : T3} (G : IG D f) : fv f.1 f.2.1 f.2.2 0 1 = (cnx D (rt D) f).1 ∧ po f.1 f.2.1 f.2.2 0 1 (-1) (cme (rt D) f) = (cnx D (rt D) f).2.1 ∧ fv f.1 f.2.1 f.2.2 (-1) (cme (rt D) f) = (cnx D (rt D) f).2.2 := by
  obtain ⟨k1, k2, k3, k4⟩ := cme_ex G
  obtain ⟨b1, b2, b3⟩ := G.bd
  have hc := (ne_of_dis (cdG_RD G.g).1 G.d).2
  rw [k1]
  dsimp only
  rw [k2] at k3 k4
  clear k1 k2
  generalize cme (rt D) f = e at *
  generalize f.1 = a at *
  generalize f.2.1 = b at *
  generalize f.2.2 = c at *
  have ce : -1000000 ≤ c * e ∧ c * e ≤ 1000000 := by
    have : 2 * c * e = 2 * (c * e) := by rw [Int.mul_assoc]
    omega
  have he : -1000000 ≤ e ∧ e ≤ 1000000 := by
    have e1 : (c * e).natAbs = c.natAbs * e.natAbs := Int.natAbs_mul c e
    have e2 : 1 * e.natAbs ≤ c.natAbs * e.natAbs := Nat.mul_le_mul_right _ (by omega)
    omega
  have m1 := mul_bd (a := c * e) (b := e) (A := 1000000) (B := 1000000) ce.1 ce.2 he.1 he.2
  have m2 := mul_bd (a := b) (b := e) (A := 1000000) (B := 1000000) b2.1 b2.2 he.1 he.2
  have m3 : 2 * c * e = 2 * (c * e) := by rw [Int.mul_assoc]
  refine ⟨?_, ?_, ?_⟩
  · simp only [fv, Int.mul_zero, Int.mul_one, Int.zero_mul]
    simp (disch := omega) only [wrap_small, Int.add_zero, Int.zero_add]
  · simp only [po, Int.mul_zero, Int.mul_one, Int.zero_mul, Int.one_mul, Int.mul_neg]
    simp (disch := omega) only [wrap_small, Int.add_zero, Int.zero_add]
    omega
  · simp only [fv, Int.mul_neg, Int.mul_one, Int.neg_neg, Int.neg_mul]
    simp (disch := omega) only [wrap_small, Int.add_zero, Int.zero_add, Int.neg_neg, Int.neg_mul]
    omega

def nfG (D : Int) (f : T3) : Bool := num (cnx D (rt D) f).1 && num (cnx D (rt D) f).2.1 && num (cnx D (rt D) f).2.2 && numT (cmM (rt D) f)
theorem nf_IG {D : Int} {f : T3} (G : IG D f) (h : nfG D f = true) : IG D (cnx D (rt D) f) := by
  simp only [nfG, Bool.and_eq_true] at h
  exact ⟨h.1.1.1, h.1.1.2, h.1.2, cnx_dis (cdG_RD G.g).1 G.d, G.g⟩
theorem IG.cgG {D : Int} {f : T3} (G : IG D f) : cgG f = true := by
  unfold Go.Proofs.Ytnlabjnjcfapiaa.cgG
  rw [G.a, G.b, G.c, G.dsc, G.g]
  rfl
def z3 : T3 := (0, 0, 0)
def z4 : T4 := (0, 0, 0, 0)
def nfR (D : Int) (f : T3) : T3 × T4 × Bool := if nfG D f then (cnx D (rt D) f, cmM (rt D) f, true) else (z3, z4, false)

theorem impl_NextForm (D a b c : Int) (G : IG D (a, b, c)) : AFun Try.prog 57 [] [Fo a b c] (P3 (c3 (nfR D (a, b, c)).1) (c4 (nfR D (a, b, c)).2.1) (nfR D (a, b, c)).2.2) [] [] := by
  have hg := G.cgG
  have hm := impl_neighbour D a b c G
  unfold nfR nfG numT cmM
  dsimp only
  rw [show num 0 = true from rfl, show num (-1) = true from rfl, show num 1 = true from rfl, Bool.true_and, Bool.true_and, Bool.true_and]
  have n0 : num 0 = true := rfl
  have n1 : num 1 = true := rfl
  have n2 : num (-1) = true := rfl
  clear G
  generalize cnx D (rt D) (a, b, c) = g at *
  generalize cme (rt D) (a, b, c) = e at *
  refine afun_intro fn57 rfl rfl (by repeat' (first | exact trivial | (simp; done) | refine ⟨?_, ?_⟩)) ?_
  unfold ac57
  repeat' (first | ((with_reducible refine (?_ : (_ : Bool) = _)); (with_reducible rfl)) | ((with_reducible refine (?_ : (_ : Nat × Nat) = _)); (with_reducible rfl)) | (with_reducible refine leafRI ?_) | (with_reducible refine leafRB ?_) | (with_reducible refine leafI ?_) | (with_reducible refine leafB ?_) | ((with_reducible refine (?_ : (_ : Int) = _)); (with_reducible rfl)) | ((with_reducible refine (?_ : (_ : List (List Value)) = _)); (with_reducible rfl)) | ((with_reducible refine (?_ : (_ : Int) ≠ 0)); (first | assumption | omega | (simp; done) | (simp only [ints_len] at *; omega) | (simp; omega))) | ((with_reducible refine (?_ : (_ : Int) ≤ _)); (first | assumption | omega | (simp; done) | (simp only [ints_len] at *; omega) | (simp; omega))) | ((with_reducible refine (?_ : (_ : Int) < _)); (first | assumption | omega | (simp; done) | (simp only [ints_len] at *; omega) | (simp; omega))) | ((with_reducible refine (?_ : (_ : Nat) ≤ _)); (first | omega | (simp only [List.length_cons, List.length_nil]; omega) | (simp [ints]; done) | (simp; omega))) | ((with_reducible refine (?_ : (_ : Nat) < _)); (first | omega | (simp only [List.length_cons, List.length_nil]; omega) | (simp [ints]; done) | (simp; omega))) | ((with_reducible refine (?_ : (_ : Nat) = _)); (first | (with_reducible rfl) | (simp; done) | (simp only [fr_len]) | (simp only [ints_len]) | omega | (simp [*]; done))) | (refine And.intro ?_ ?_) | (intro h; first | (exact Bool.noConfusion h) | ((simp only [decide_eq_true_eq, decide_eq_false_iff_not, beq_iff_eq, bne_iff_ne, ne_eq, beq_eq_false_iff_ne, bne_eq_false_iff_eq, Bool.not_eq_true', Bool.not_eq_false', Bool.not_eq_true, Bool.not_eq_false, Int.not_le, Int.not_lt, Bool.and_eq_true, Bool.or_eq_true, Bool.or_eq_false_iff, Bool.and_eq_false_iff] at h); (try (first | (exact Bool.noConfusion h) | (exact (h trivial).elim)))) | skip) | ((refine (?_ : ACall _ _ _ _ _ _ _)); first | ((apply acall (impl_isIndefinite _ _ _)); (focus (repeat' (first | exact rfl | (refine And.intro ?_ ?_) | (simp only [ints_len]; done) | (simp; done) | omega)))) | ((apply acall (hm)); (focus (repeat' (first | exact rfl | (refine And.intro ?_ ?_) | (simp only [ints_len]; done) | (simp; done) | omega)))) | ((apply acall (impl_IsForm _ _ _)); (focus (repeat' (first | exact rfl | (refine And.intro ?_ ?_) | (simp only [ints_len]; done) | (simp; done) | omega)))) | ((apply acall (impl_IsMatrix _ _ _ _)); (focus (repeat' (first | exact rfl | (refine And.intro ?_ ?_) | (simp only [ints_len]; done) | (simp; done) | omega))))) | ((with_reducible refine (?_ : chk _ _ = true)); kernel_rfl) | ((with_reducible refine (?_ : (_ : IntKind) = _)); (with_reducible rfl)) | ((with_reducible refine (?_ : eqC (C.pvw _ _ _) (C.pvw _ _ _))); exact rfl) | ((with_reducible refine (?_ : eqC (C.pv (Value.int IntKind.u64 _)) _)); exact rfl) | exact trivial)
  all_goals first | (simp_all [z3, z4]; done) | (split <;> first | rfl | (exfalso; grind)) | skip

/-! reduction -/
def rcS (D : Int) : Nat → T3 → T4 → T3 × T4 × Bool
  | 0, f, m => (f, m, true)
  | k + 1, f, m => if cyc (rt D) f then (f, m, true) else if nfG D f then (if numT (mulT m (cmM (rt D) f)) then rcS D k (cnx D (rt D) f) (mulT m (cmM (rt D) f)) else (z3, z4, false)) else (z3, z4, false)
def cmr (D : Int) (f : T3) : Nat := if cyc (rt D) f then 0 else f.2.2.natAbs + 1
theorem cmr_zero {D : Int} {f : T3} (h : cmr D f = 0) : cyc (rt D) f = true := by
  unfold cmr at h
  split at h
  · assumption
  · omega
theorem cmr_dec {D : Int} {f : T3} (G : IG D f) (h : cyc (rt D) f = false) : cmr D (cnx D (rt D) f) < cmr D f := by
  unfold cmr
  rw [if_neg (show ¬ cyc (rt D) f = true by simp [h])]
  split
  · omega
  · rename_i hn
    have := cnx_dec (cdG_RD G.g).1 G.d hn
    omega
theorem rcS_fuel (D : Int) : ∀ (k j : Nat) (f : T3) (m : T4), IG D f → cmr D f ≤ k → cmr D f ≤ j → rcS D k f m = rcS D j f m
  | 0, 0, f, m, _, _, _ => rfl
  | 0, j + 1, f, m, h, h1, h2 => by simp only [rcS]; rw [if_pos (cmr_zero (by omega))]
  | k + 1, 0, f, m, h, h1, h2 => by simp only [rcS]; rw [if_pos (cmr_zero (by omega))]
  | k + 1, j + 1, f, m, h, h1, h2 => by
    simp only [rcS]
    split
    · rfl
    · rename_i hr
      split
      · rename_i hn
        have hd := cmr_dec h (by simpa using hr)
        rw [rcS_fuel D k j _ _ (nf_IG h hn) (by omega) (by omega)]
      · rfl
def rcM (D : Int) (f : T3) (m : T4) : T3 × T4 × Bool := rcS D (cmr D f) f m
theorem rcM_stop {D : Int} {f : T3} {m : T4} (h : cyc (rt D) f = true) : rcM D f m = (f, m, true) := by
  rw [rcM]
  cases hk : cmr D f with
  | zero => rfl
  | succ k => rw [rcS, if_pos h]
theorem rcM_step {D : Int} {f : T3} {m : T4} (G : IG D f) (h : cyc (rt D) f = false) (hn : nfG D f = true) (hm : numT (mulT m (cmM (rt D) f)) = true) : rcM D f m = rcM D (cnx D (rt D) f) (mulT m (cmM (rt D) f)) := by
  have hd := cmr_dec G h
  obtain ⟨k, hk⟩ : ∃ k, cmr D f = k + 1 := ⟨cmr D f - 1, by omega⟩
  rw [rcM, hk, rcS, if_neg (by simp [h]), if_pos hn, if_pos hm, rcM]
  exact rcS_fuel D _ _ _ _ (nf_IG G hn) (by omega) (by omega)
theorem rcM_no1 {D : Int} {f : T3} {m : T4} (G : IG D f) (h : cyc (rt D) f = false) (hn : nfG D f = false) : rcM D f m = (z3, z4, false) := by
  have hd := cmr_dec G h
  obtain ⟨k, hk⟩ : ∃ k, cmr D f = k + 1 := ⟨cmr D f - 1, by omega⟩
  rw [rcM, hk, rcS, if_neg (by simp [h]), if_neg (by simp [hn])]
theorem rcM_no2 {D : Int} {f : T3} {m : T4} (G : IG D f) (h : cyc (rt D) f = false) (hn : nfG D f = true) (hm : numT (mulT m (cmM (rt D) f)) = false) : rcM D f m = (z3, z4, false) := by
  have hd := cmr_dec G h
  obtain ⟨k, hk⟩ : ∃ k, cmr D f = k + 1 := ⟨cmr D f - 1, by omega⟩
  rw [rcM, hk, rcS, if_neg (by simp [h]), if_pos hn, if_neg (by simp [hm])]
def rcR (D : Int) (f : T3) : T3 × T4 × Bool := rcM D f (1, 0, 0, 1)
theorem rcS_cyc {D : Int} : ∀ (k : Nat) (f : T3) (m : T4), IG D f → cmr D f ≤ k → (rcS D k f m).2.2 = true → IG D (rcS D k f m).1 ∧ cyc (rt D) (rcS D k f m).1 = true
  | 0, f, m, G, h, _ => ⟨G, cmr_zero (D := D) (f := f) (by omega)⟩
  | k + 1, f, m, G, h, hk => by
    simp only [rcS] at hk ⊢
    by_cases h1 : cyc (rt D) f = true
    · rw [if_pos h1] at hk ⊢
      exact ⟨G, h1⟩
    · rw [if_neg h1] at hk ⊢
      by_cases h2 : nfG D f = true
      · rw [if_pos h2] at hk ⊢
        by_cases h3 : numT (mulT m (cmM (rt D) f)) = true
        · rw [if_pos h3] at hk ⊢
          have hd := cmr_dec G (by simpa using h1)
          exact rcS_cyc k _ _ (nf_IG G h2) (by omega) hk
        · rw [if_neg h3] at hk; cases hk
      · rw [if_neg h2] at hk; cases hk
theorem rcR_cyc {D : Int} {f : T3} (G : IG D f) (h : (rcR D f).2.2 = true) : IG D (rcR D f).1 ∧ cyc (rt D) (rcR D f).1 = true := rcS_cyc _ _ _ G (Nat.le_refl _) h

end Go.Proofs.Ytnlabjnjcfapiaa
