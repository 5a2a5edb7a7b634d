/- ReduceForm. -/
import Derived.Test.YtodpegnkengeiaaF24
import Derived.Test.YtodpegnkengeiaaF33
namespace Go.Proofs.Ytodpegnkengeiaa
set_option linter.unusedSimpArgs false
set_option linter.unusedVariables false
open Go.RowKit
set_option maxRecDepth 100000
set_option maxHeartbeats 2000000

/-- m turns the form (a, b, c) into f. -/
structure IM (a b c : Int) (f : T3) (m : T4) : Prop where
  e1 : f.1 = fo a b c (m.1, m.2.2.1)
  e2 : f.2.2 = fo a b c (m.2.1, m.2.2.2)
  e3 : f.2.1 = 2 * a * m.1 * m.2.1 + b * (m.1 * m.2.2.2 + m.2.1 * m.2.2.1) + 2 * c * m.2.2.1 * m.2.2.2
  d : m.1 * m.2.2.2 - m.2.1 * m.2.2.1 = 1
theorem fo_x (a b c : Int) (p : P2) : 4 * c * fo a b c p = (2 * c * p.2 + b * p.1) * (2 * c * p.2 + b * p.1) + (4 * a * c - b * b) * (p.1 * p.1) := by unfold fo; grind
theorem fo_y (a b c : Int) (p : P2) : 4 * a * fo a b c p = (2 * a * p.1 + b * p.2) * (2 * a * p.1 + b * p.2) + (4 * a * c - b * b) * (p.2 * p.2) := by unfold fo; grind
theorem DF_c {a b c : Int} (D : DF a b c) : 1 ≤ c := by
  have s := sq0 b
  have hd := D.d
  rcases Int.lt_or_le 0 c with h | h
  · omega
  · have := Int.mul_nonpos_of_nonneg_of_nonpos (show 0 ≤ 4 * a by have := D.a1; omega) h
    omega
/-- A coordinate is bounded by the value. -/
theorem coord_le {a b c : Int} (D : DF a b c) {p : P2} {M : Int} (h0 : 0 ≤ fo a b c p) (hv : fo a b c p ≤ M) : p.1 * p.1 ≤ 4000000 * M ∧ p.2 * p.2 ≤ 4000000 * M := by
  have hx := fo_x a b c p
  have hy := fo_y a b c p
  have s1 := sq0 (2 * c * p.2 + b * p.1)
  have s2 := sq0 (2 * a * p.1 + b * p.2)
  have t1 := sq0 p.1
  have t2 := sq0 p.2
  have hc := DF_c D
  have hd := D.d
  have k1 := Int.mul_le_mul_of_nonneg_right (show 1 ≤ 4 * a * c - b * b by omega) t1
  have k2 := Int.mul_le_mul_of_nonneg_right (show 1 ≤ 4 * a * c - b * b by omega) t2
  have m1 := Int.mul_le_mul (show 4 * c ≤ 4000000 by have := D.c2; omega) hv h0 (by omega)
  have m2 := Int.mul_le_mul (show 4 * a ≤ 4000000 by have := D.a2; omega) hv h0 (by omega)
  constructor <;> omega
theorem root_le {x R : Int} (hR : 0 ≤ R) (h : x * x ≤ R * R) : -R ≤ x ∧ x ≤ R := by
  constructor
  · rcases Int.lt_or_le x (-R) with h1 | h1
    · have := Int.mul_le_mul (show R + 1 ≤ -x by omega) (show R + 1 ≤ -x by omega) (by omega) (by omega)
      rw [Int.neg_mul_neg] at this
      have : (R + 1) * (R + 1) = R * R + 2 * R + 1 := by grind
      omega
    · exact h1
  · rcases Int.lt_or_le R x with h1 | h1
    · have := Int.mul_le_mul (show R + 1 ≤ x by omega) (show R + 1 ≤ x by omega) (by omega) (by omega)
      have : (R + 1) * (R + 1) = R * R + 2 * R + 1 := by grind
      omega
    · exact h1
theorem IM_bd {a b c : Int} {f : T3} {m : T4} (D : DF a b c) (g : gd f) (I : IM a b c f m) :
    (-2000000 ≤ m.1 ∧ m.1 ≤ 2000000) ∧ (-2000000 ≤ m.2.2.1 ∧ m.2.2.1 ≤ 2000000) ∧ (-2500000000 ≤ m.2.1 ∧ m.2.1 ≤ 2500000000) ∧ (-2500000000 ≤ m.2.2.2 ∧ m.2.2.2 ≤ 2500000000) := by
  obtain ⟨x, y, z⟩ := f
  have hc := gd_c g
  have g1 := g.1
  have g2 := g.2.1
  have h1 := coord_le D (p := (m.1, m.2.2.1)) (M := 1000000) (by rw [← I.e1]; dsimp only at *; omega) (by rw [← I.e1]; exact g2)
  have h2 := coord_le D (p := (m.2.1, m.2.2.2)) (M := 1250000000000) (by rw [← I.e2]; dsimp only at *; omega) (by rw [← I.e2]; exact hc.2.1)
  exact ⟨root_le (by decide) (by have := h1.1; dsimp only at this; omega), root_le (by decide) (by have := h1.2; dsimp only at this; omega), root_le (by decide) (by have := h2.1; dsimp only at this; omega), root_le (by decide) (by have := h2.2; dsimp only at this; omega)⟩
theorem IM_step {a b c : Int} {f : T3} {m : T4} (D : DF a b c) (g : gd f) (I : IM a b c f m) (hr : redT f = false) : IM a b c (nxF f) (mulT m (stp f.1 f.2.1 f.2.2)) := by
  obtain ⟨b1, b2, b3, b4⟩ := IM_bd D g I
  obtain ⟨x, y, z⟩ := f
  obtain ⟨p, q, r, s⟩ := m
  obtain ⟨e1, e2, e3, d⟩ := I
  dsimp only at e1 e2 e3 d b1 b2 b3 b4
  by_cases hn : (x - y) / (2 * x) = 0
  · obtain ⟨e, k1, k2, k3⟩ := nx_S g hn hr
    have hs : stp x y z = (0, -1, 1, 0) := by rw [stp, if_neg (fun hh => hh hn), if_neg (by simpa [redT] using hr)]
    have hm : mulT (p, q, r, s) (0, -1, 1, 0) = (q, -p, s, -r) := by
      simp only [mulT, mu, Int.mul_one, Int.mul_zero, Int.one_mul, Int.zero_mul, Int.mul_neg]
      simp (disch := omega) only [wrap_small, Int.add_zero, Int.zero_add]
    rw [e]
    dsimp only
    rw [hs, hm]
    refine ⟨e2, ?_, ?_, ?_⟩
    · dsimp only; rw [e1]; unfold fo; grind
    · dsimp only; rw [e3]; grind
    · dsimp only; have : q * -r - -p * s = p * s - q * r := by grind
      omega
  · obtain ⟨e, k1, k2⟩ := nx_T g rfl hn
    have hs : stp x y z = (1, (x - y) / (2 * x), 0, 1) := by rw [stp, if_pos hn]
    have hN : -1000000 ≤ (x - y) / (2 * x) ∧ (x - y) / (2 * x) ≤ 1000000 := by
      obtain ⟨h1, h2, h3, h4, _, _⟩ := g
      dsimp only at h1 h2 h3 h4
      have q1 := Int.mul_ediv_add_emod (x - y) (2 * x)
      have q2 := Int.emod_nonneg (x - y) (show 2 * x ≠ 0 by omega)
      have q3 := Int.emod_lt_of_pos (x - y) (show 0 < 2 * x by omega)
      generalize (x - y) / (2 * x) = n at *
      constructor
      · rcases Int.lt_or_le n (-1000000) with h | h
        · have := Int.mul_le_mul_of_nonneg_left (show n ≤ -1000001 by omega) (show 0 ≤ 2 * x by omega); omega
        · exact h
      · rcases Int.lt_or_le 1000000 n with h | h
        · have := Int.mul_le_mul_of_nonneg_left (show 1000001 ≤ n by omega) (show 0 ≤ 2 * x by omega); omega
        · exact h
    rw [e]
    dsimp only
    rw [hs]
    generalize (x - y) / (2 * x) = n at *
    have w1 := mul_bd (a := p) (b := n) (A := 2000000) (B := 1000000) b1.1 b1.2 hN.1 hN.2
    have w2 := mul_bd (a := r) (b := n) (A := 2000000) (B := 1000000) b2.1 b2.2 hN.1 hN.2
    have hm : mulT (p, q, r, s) (1, n, 0, 1) = (p, p * n + q, r, r * n + s) := by
      simp only [mulT, mu, Int.mul_one, Int.mul_zero, Int.one_mul, Int.zero_mul, Int.mul_neg]
      simp (disch := omega) only [wrap_small, Int.add_zero, Int.zero_add]
    rw [hm]
    refine ⟨e1, ?_, ?_, ?_⟩
    · dsimp only; rw [e1, e2, e3]; unfold fo; grind
    · dsimp only; rw [e1, e3]; unfold fo; grind
    · dsimp only; grind
/-- In the end the form is reduced and the matrix is small. -/
theorem rdS_end {a b c : Int} (D : DF a b c) : ∀ (k : Nat) (f : T3) (m : T4), mr f ≤ k → gd f → IM a b c f m → gd (rdS k f m).1 ∧ redT (rdS k f m).1 = true ∧ IM a b c (rdS k f m).1 (rdS k f m).2
  | 0, f, m, h, g, I => ⟨g, mr_zero (f := f) (by omega), I⟩
  | k + 1, f, m, h, g, I => by
    rw [rdS]
    split
    · exact ⟨g, by assumption, I⟩
    · rename_i hr
      have hr : redT f = false := by simpa using hr
      obtain ⟨g1, g2⟩ := nx_gd' g hr
      exact rdS_end D k _ _ (by omega) g1 (IM_step D g I hr)
theorem red_small {a b c : Int} {f : T3} {m : T4} (D : DF a b c) (g : gd f) (hr : redT f = true) (I : IM a b c f m) : numT m = true := by
  obtain ⟨x, y, z⟩ := f
  obtain ⟨p, q, r, s⟩ := m
  obtain ⟨e1, e2, e3, d⟩ := I
  have hc := gd_c g
  obtain ⟨g1, g2, g3, g4, g5, g6⟩ := g
  dsimp only at *
  simp only [redT, red, Bool.and_eq_true, Bool.or_eq_true, decide_eq_true_eq] at hr
  have hxz : x ≤ z := by omega
  -- the discriminant is kept
  have hD : 4 * a * c - b * b = 4 * x * z - y * y := by
    have : 4 * x * z - y * y = (4 * a * c - b * b) * ((p * s - q * r) * (p * s - q * r)) := by rw [e1, e2, e3]; unfold fo; grind
    rw [this, d]; grind
  have hy : y * y ≤ x * z := by
    have h1 : y * y ≤ x * x := by
      have := sq0 (x + y)
      rcases Int.le_total 0 y with h | h
      · exact Int.mul_le_mul (by omega) (by omega) h (by omega)
      · have := Int.mul_le_mul (show -y ≤ x by omega) (show -y ≤ x by omega) (by omega) (by omega)
        rwa [Int.neg_mul_neg] at this
    have h2 := Int.mul_le_mul_of_nonneg_left hxz (show 0 ≤ x by omega)
    omega
  have h3 : 3 * (x * z) ≤ 4 * a * c - b * b := by
    have : 4 * x * z = 4 * (x * z) := by grind
    omega
  have fin : ∀ (u v : Int) (w : P2) (K : Int), 1 ≤ u → 1 ≤ v → u * v = x * z → fo a b c w = u → K ≤ 1000000 → ∀ t T : Int, T = t * t → 4 * K * u = (4 * a * c - b * b) * T + 0 ∨ (4 * a * c - b * b) * T ≤ 4 * K * u → -1000000 ≤ t ∧ t ≤ 1000000 := fun u v w K hu hv huv hw hK t T hT hle => by
    have t0 := sq0 t
    have l1 := Int.mul_le_mul_of_nonneg_right h3 (show 0 ≤ T by rw [hT]; exact t0)
    have l2 : (3 * (x * z)) * T = u * (3 * v * T) := by rw [← huv]; grind
    have l3 : u * (3 * v * T) ≤ u * (4 * K) := by
      have : 4 * K * u = u * (4 * K) := by grind
      omega
    have l4 := Int.le_of_mul_le_mul_left l3 (by omega)
    have l5 := Int.mul_le_mul_of_nonneg_right hv (show 0 ≤ T by rw [hT]; exact t0)
    have l6 : 3 * v * T = 3 * (v * T) := by grind
    exact (root_le (R := 1000000) (by decide) (by rw [← hT]; omega))
  have x1 := fo_x a b c (p, r)
  have y1 := fo_y a b c (p, r)
  have x2 := fo_x a b c (q, s)
  have y2 := fo_y a b c (q, s)
  dsimp only at x1 y1 x2 y2
  rw [← e1] at x1 y1
  rw [← e2] at x2 y2
  have q1 := sq0 (2 * c * r + b * p)
  have q2 := sq0 (2 * a * p + b * r)
  have q3 := sq0 (2 * c * s + b * q)
  have q4 := sq0 (2 * a * q + b * s)
  have z1 := fin x z (p, r) c (by omega) (by omega) rfl e1.symm D.c2 p _ rfl (.inr (by omega))
  have z2 := fin x z (p, r) a (by omega) (by omega) rfl e1.symm D.a2 r _ rfl (.inr (by omega))
  have z3 := fin z x (q, s) c (by omega) (by omega) (Int.mul_comm _ _) e2.symm D.c2 q _ rfl (.inr (by omega))
  have z4 := fin z x (q, s) a (by omega) (by omega) (Int.mul_comm _ _) e2.symm D.a2 s _ rfl (.inr (by omega))
  simp only [numT, Bool.and_eq_true, num_iff]
  omega
theorem rdR_num {a b c : Int} (h : dfn a b c = true) : numT (rdR (a, b, c)).2 = true := by
  have D := dfn_DF h
  have g := dfn_gd h
  have I0 : IM a b c (a, b, c) (1, 0, 0, 1) := ⟨by dsimp only; unfold fo; grind, by dsimp only; unfold fo; grind, by dsimp only; grind, by decide⟩
  obtain ⟨k1, k2, k3⟩ := rdS_end D (mr (a, b, c)) (a, b, c) (1, 0, 0, 1) (Nat.le_refl _) g I0
  exact red_small D k1 k2 k3

def z3 : T3 := (0, 0, 0)
def z4 : T4 := (0, 0, 0, 0)
def rfV (f : T3) : T3 × T4 := if dfn f.1 f.2.1 f.2.2 then rdR f else (z3, z4)
abbrev P34 (x : T3 × T4) (b : Bool) : V := .tup [(true, c3 x.1), (true, c4 x.2), (false, [cB b])]

theorem spec_ReduceForm (a b c : Int) : AFun Try.prog 18 [] [Fo a b c] (P34 (rfV (a, b, c)) (dfn a b c)) [] [] := by
  by_cases hd : dfn a b c = true
  · have hv : rfV (a, b, c) = rdR (a, b, c) := by simp [rfV, hd]
    have hn := rdR_num hd
    have hg : Gd (a, b, c) := ⟨dfn_gd hd⟩
    have hr := spec_reReduce a b c hg.out
    rw [hv]
    generalize rdR (a, b, c) = x at *
    simp only [numT, Bool.and_eq_true] at hn
    refine afun_intro fn18 (by simp) rfl (by repeat' (first | exact trivial | (simp; done) | refine ⟨?_, ?_⟩)) ?_
    unfold ac18
    repeat' (first | ((with_reducible refine (?_ : (_ : Bool) = _)); (with_reducible rfl)) | ((with_reducible refine (?_ : (_ : Nat × Nat) = _)); (with_reducible rfl)) | (with_reducible refine leafRI ?_) | (with_reducible refine leafRB ?_) | (with_reducible refine leafI ?_) | (with_reducible refine leafB ?_) | ((with_reducible refine (?_ : (_ : Int) = _)); (with_reducible rfl)) | ((with_reducible refine (?_ : (_ : List (List Value)) = _)); (with_reducible rfl)) | ((with_reducible refine (?_ : (_ : Int) ≠ 0)); (first | assumption | omega | (simp only [ints_len] at *; omega) | (simp; omega))) | ((with_reducible refine (?_ : (_ : Int) ≤ _)); (first | assumption | omega | (simp only [ints_len] at *; omega) | (simp; omega))) | ((with_reducible refine (?_ : (_ : Int) < _)); (first | assumption | omega | (simp only [ints_len] at *; omega) | (simp; omega))) | ((with_reducible refine (?_ : (_ : Nat) ≤ _)); (first | omega | (simp only [List.length_cons, List.length_nil]; omega) | (simp; omega))) | ((with_reducible refine (?_ : (_ : Nat) = _)); (first | (with_reducible rfl) | (simp; done) | (simp only [fr_len]) | (simp only [ints_len]) | omega | (simp [*]; done))) | (refine And.intro ?_ ?_) | (intro h; first | (exact Bool.noConfusion h) | ((simp only [decide_eq_true_eq, decide_eq_false_iff_not, beq_iff_eq, bne_iff_ne, ne_eq, beq_eq_false_iff_ne, bne_eq_false_iff_eq, Bool.not_eq_true', Bool.not_eq_false', Bool.not_eq_true, Bool.not_eq_false, Int.not_le, Int.not_lt, Bool.and_eq_true, Bool.or_eq_true, Bool.or_eq_false_iff, Bool.and_eq_false_iff] at h); (try (first | (exact Bool.noConfusion h) | (exact (h trivial).elim)))) | skip) | ((refine (?_ : ACall _ _ _ _ _ _ _)); first | ((apply acall (spec_foDefinite _ _ _)); (focus (repeat' (first | exact rfl | (refine And.intro ?_ ?_) | (simp only [ints_len]; done) | (simp; done) | omega)))) | ((apply acall (hr)); (focus (repeat' (first | exact rfl | (refine And.intro ?_ ?_) | (simp only [ints_len]; done) | (simp; done) | omega)))) | ((apply acall (spec_foMatrix _ _ _ _)); (focus (repeat' (first | exact rfl | (refine And.intro ?_ ?_) | (simp only [ints_len]; done) | (simp; done) | omega))))) | ((with_reducible refine (?_ : chk _ _ = true)); kernel_rfl) | exact trivial)
    all_goals first | rfl | (exact hd.symm) | (exfalso; simp_all; done)
  · have hd' : dfn a b c = false := by simpa using hd
    have hv : rfV (a, b, c) = (z3, z4) := by simp [rfV, hd']
    rw [hv]
    refine afun_intro fn18 (by simp) rfl (by repeat' (first | exact trivial | (simp; done) | refine ⟨?_, ?_⟩)) ?_
    unfold ac18
    repeat' (first | ((with_reducible refine (?_ : (_ : Bool) = _)); (with_reducible rfl)) | ((with_reducible refine (?_ : (_ : Nat × Nat) = _)); (with_reducible rfl)) | (with_reducible refine leafRI ?_) | (with_reducible refine leafRB ?_) | (with_reducible refine leafI ?_) | (with_reducible refine leafB ?_) | ((with_reducible refine (?_ : (_ : Int) = _)); (with_reducible rfl)) | ((with_reducible refine (?_ : (_ : List (List Value)) = _)); (with_reducible rfl)) | ((with_reducible refine (?_ : (_ : Int) ≠ 0)); (first | assumption | omega | (simp only [ints_len] at *; omega) | (simp; omega))) | ((with_reducible refine (?_ : (_ : Int) ≤ _)); (first | assumption | omega | (simp only [ints_len] at *; omega) | (simp; omega))) | ((with_reducible refine (?_ : (_ : Int) < _)); (first | assumption | omega | (simp only [ints_len] at *; omega) | (simp; omega))) | ((with_reducible refine (?_ : (_ : Nat) ≤ _)); (first | omega | (simp only [List.length_cons, List.length_nil]; omega) | (simp; omega))) | ((with_reducible refine (?_ : (_ : Nat) = _)); (first | (with_reducible rfl) | (simp; done) | (simp only [fr_len]) | (simp only [ints_len]) | omega | (simp [*]; done))) | (refine And.intro ?_ ?_) | (intro h; first | (exact Bool.noConfusion h) | ((simp only [decide_eq_true_eq, decide_eq_false_iff_not, beq_iff_eq, bne_iff_ne, ne_eq, beq_eq_false_iff_ne, bne_eq_false_iff_eq, Bool.not_eq_true', Bool.not_eq_false', Bool.not_eq_true, Bool.not_eq_false, Int.not_le, Int.not_lt, Bool.and_eq_true, Bool.or_eq_true, Bool.or_eq_false_iff, Bool.and_eq_false_iff] at h); (try (first | (exact Bool.noConfusion h) | (exact (h trivial).elim)))) | skip) | ((refine (?_ : ACall _ _ _ _ _ _ _)); first | ((apply acall (spec_foDefinite _ _ _)); (focus (repeat' (first | exact rfl | (refine And.intro ?_ ?_) | (simp only [ints_len]; done) | (simp; done) | omega))))) | ((with_reducible refine (?_ : chk _ _ = true)); kernel_rfl) | exact trivial)
    all_goals first | rfl | (exact hd'.symm) | (exfalso; simp_all; done)

theorem impl_ReduceForm (a b c : Int) : AFun Try.prog 19 [] [Fo a b c] (P34 (rfV (a, b, c)) (dfn a b c)) [] [] := by
  by_cases hd : dfn a b c = true
  · have hv : rfV (a, b, c) = rdR (a, b, c) := by simp [rfV, hd]
    have hn := rdR_num hd
    have hg : Gd (a, b, c) := ⟨dfn_gd hd⟩
    have hr := impl_reduce a b c hg.out
    rw [hv]
    generalize rdR (a, b, c) = x at *
    simp only [numT, Bool.and_eq_true] at hn
    refine afun_intro fn19 (by simp) rfl (by repeat' (first | exact trivial | (simp; done) | refine ⟨?_, ?_⟩)) ?_
    unfold ac19
    repeat' (first | ((with_reducible refine (?_ : (_ : Bool) = _)); (with_reducible rfl)) | ((with_reducible refine (?_ : (_ : Nat × Nat) = _)); (with_reducible rfl)) | (with_reducible refine leafRI ?_) | (with_reducible refine leafRB ?_) | (with_reducible refine leafI ?_) | (with_reducible refine leafB ?_) | ((with_reducible refine (?_ : (_ : Int) = _)); (with_reducible rfl)) | ((with_reducible refine (?_ : (_ : List (List Value)) = _)); (with_reducible rfl)) | ((with_reducible refine (?_ : (_ : Int) ≠ 0)); (first | assumption | omega | (simp only [ints_len] at *; omega) | (simp; omega))) | ((with_reducible refine (?_ : (_ : Int) ≤ _)); (first | assumption | omega | (simp only [ints_len] at *; omega) | (simp; omega))) | ((with_reducible refine (?_ : (_ : Int) < _)); (first | assumption | omega | (simp only [ints_len] at *; omega) | (simp; omega))) | ((with_reducible refine (?_ : (_ : Nat) ≤ _)); (first | omega | (simp only [List.length_cons, List.length_nil]; omega) | (simp; omega))) | ((with_reducible refine (?_ : (_ : Nat) = _)); (first | (with_reducible rfl) | (simp; done) | (simp only [fr_len]) | (simp only [ints_len]) | omega | (simp [*]; done))) | (refine And.intro ?_ ?_) | (intro h; first | (exact Bool.noConfusion h) | ((simp only [decide_eq_true_eq, decide_eq_false_iff_not, beq_iff_eq, bne_iff_ne, ne_eq, beq_eq_false_iff_ne, bne_eq_false_iff_eq, Bool.not_eq_true', Bool.not_eq_false', Bool.not_eq_true, Bool.not_eq_false, Int.not_le, Int.not_lt, Bool.and_eq_true, Bool.or_eq_true, Bool.or_eq_false_iff, Bool.and_eq_false_iff] at h); (try (first | (exact Bool.noConfusion h) | (exact (h trivial).elim)))) | skip) | ((refine (?_ : ACall _ _ _ _ _ _ _)); first | ((apply acall (impl_isDefinite _ _ _)); (focus (repeat' (first | exact rfl | (refine And.intro ?_ ?_) | (simp only [ints_len]; done) | (simp; done) | omega)))) | ((apply acall (hr)); (focus (repeat' (first | exact rfl | (refine And.intro ?_ ?_) | (simp only [ints_len]; done) | (simp; done) | omega)))) | ((apply acall (impl_IsMatrix _ _ _ _)); (focus (repeat' (first | exact rfl | (refine And.intro ?_ ?_) | (simp only [ints_len]; done) | (simp; done) | omega))))) | ((with_reducible refine (?_ : chk _ _ = true)); kernel_rfl) | exact trivial)
    all_goals first | rfl | (exact hd.symm) | (exfalso; simp_all; done)
  · have hd' : dfn a b c = false := by simpa using hd
    have hv : rfV (a, b, c) = (z3, z4) := by simp [rfV, hd']
    rw [hv]
    refine afun_intro fn19 (by simp) rfl (by repeat' (first | exact trivial | (simp; done) | refine ⟨?_, ?_⟩)) ?_
    unfold ac19
    repeat' (first | ((with_reducible refine (?_ : (_ : Bool) = _)); (with_reducible rfl)) | ((with_reducible refine (?_ : (_ : Nat × Nat) = _)); (with_reducible rfl)) | (with_reducible refine leafRI ?_) | (with_reducible refine leafRB ?_) | (with_reducible refine leafI ?_) | (with_reducible refine leafB ?_) | ((with_reducible refine (?_ : (_ : Int) = _)); (with_reducible rfl)) | ((with_reducible refine (?_ : (_ : List (List Value)) = _)); (with_reducible rfl)) | ((with_reducible refine (?_ : (_ : Int) ≠ 0)); (first | assumption | omega | (simp only [ints_len] at *; omega) | (simp; omega))) | ((with_reducible refine (?_ : (_ : Int) ≤ _)); (first | assumption | omega | (simp only [ints_len] at *; omega) | (simp; omega))) | ((with_reducible refine (?_ : (_ : Int) < _)); (first | assumption | omega | (simp only [ints_len] at *; omega) | (simp; omega))) | ((with_reducible refine (?_ : (_ : Nat) ≤ _)); (first | omega | (simp only [List.length_cons, List.length_nil]; omega) | (simp; omega))) | ((with_reducible refine (?_ : (_ : Nat) = _)); (first | (with_reducible rfl) | (simp; done) | (simp only [fr_len]) | (simp only [ints_len]) | omega | (simp [*]; done))) | (refine And.intro ?_ ?_) | (intro h; first | (exact Bool.noConfusion h) | ((simp only [decide_eq_true_eq, decide_eq_false_iff_not, beq_iff_eq, bne_iff_ne, ne_eq, beq_eq_false_iff_ne, bne_eq_false_iff_eq, Bool.not_eq_true', Bool.not_eq_false', Bool.not_eq_true, Bool.not_eq_false, Int.not_le, Int.not_lt, Bool.and_eq_true, Bool.or_eq_true, Bool.or_eq_false_iff, Bool.and_eq_false_iff] at h); (try (first | (exact Bool.noConfusion h) | (exact (h trivial).elim)))) | skip) | ((refine (?_ : ACall _ _ _ _ _ _ _)); first | ((apply acall (impl_isDefinite _ _ _)); (focus (repeat' (first | exact rfl | (refine And.intro ?_ ?_) | (simp only [ints_len]; done) | (simp; done) | omega))))) | ((with_reducible refine (?_ : chk _ _ = true)); kernel_rfl) | exact trivial)
    all_goals first | rfl | (exact hd'.symm) | (exfalso; simp_all; done)


theorem claw_ReduceForm (a b c : Int) : AFun Try.prog 4 [] [Fo a b c] (Bo true) [] [] := by
  refine afun_intro fn4 (by simp) rfl (by repeat' (first | exact trivial | (simp; done) | refine ⟨?_, ?_⟩)) ?_
  unfold ac4
  repeat' (first | ((with_reducible refine (?_ : (_ : Bool) = _)); (with_reducible rfl)) | ((with_reducible refine (?_ : (_ : Nat × Nat) = _)); (with_reducible rfl)) | (with_reducible refine leafRI ?_) | (with_reducible refine leafRB ?_) | (with_reducible refine leafI ?_) | (with_reducible refine leafB ?_) | ((with_reducible refine (?_ : (_ : Int) = _)); (with_reducible rfl)) | ((with_reducible refine (?_ : (_ : List (List Value)) = _)); (with_reducible rfl)) | ((with_reducible refine (?_ : (_ : Int) ≠ 0)); (first | assumption | omega | (simp only [ints_len] at *; omega) | (simp; omega))) | ((with_reducible refine (?_ : (_ : Int) ≤ _)); (first | assumption | omega | (simp only [ints_len] at *; omega) | (simp; omega))) | ((with_reducible refine (?_ : (_ : Int) < _)); (first | assumption | omega | (simp only [ints_len] at *; omega) | (simp; omega))) | ((with_reducible refine (?_ : (_ : Nat) ≤ _)); (first | omega | (simp only [List.length_cons, List.length_nil]; omega) | (simp; omega))) | ((with_reducible refine (?_ : (_ : Nat) = _)); (first | (with_reducible rfl) | (simp; done) | (simp only [fr_len]) | (simp only [ints_len]) | omega | (simp [*]; done))) | (refine And.intro ?_ ?_) | (intro h; first | (exact Bool.noConfusion h) | ((simp only [decide_eq_true_eq, decide_eq_false_iff_not, beq_iff_eq, bne_iff_ne, ne_eq, beq_eq_false_iff_ne, bne_eq_false_iff_eq, Bool.not_eq_true', Bool.not_eq_false', Bool.not_eq_true, Bool.not_eq_false, Int.not_le, Int.not_lt, Bool.and_eq_true, Bool.or_eq_true, Bool.or_eq_false_iff, Bool.and_eq_false_iff] at h); (try (first | (exact Bool.noConfusion h) | (exact (h trivial).elim)))) | skip) | ((refine (?_ : ACall _ _ _ _ _ _ _)); first | ((apply acall (laws_toForm _ _ _)); (focus (repeat' (first | exact rfl | (refine And.intro ?_ ?_) | (simp only [ints_len]; done) | (simp; done) | omega)))) | ((apply acall (spec_ReduceForm _ _ _)); (focus (repeat' (first | exact rfl | (refine And.intro ?_ ?_) | (simp only [ints_len]; done) | (simp; done) | omega)))) | ((apply acall (impl_ReduceForm _ _ _)); (focus (repeat' (first | exact rfl | (refine And.intro ?_ ?_) | (simp only [ints_len]; done) | (simp; done) | omega)))) | ((apply acall (laws_eqForm _ _ _ _ _ _)); (focus (repeat' (first | exact rfl | (refine And.intro ?_ ?_) | (simp only [ints_len]; done) | (simp; done) | omega)))) | ((apply acall (laws_eqMatrix _ _ _ _ _ _ _ _)); (focus (repeat' (first | exact rfl | (refine And.intro ?_ ?_) | (simp only [ints_len]; done) | (simp; done) | omega))))) | ((with_reducible refine (?_ : chk _ _ = true)); kernel_rfl) | exact trivial)
  all_goals simp_all

theorem law_ReduceForm (a b c : Int) (w : World) : Calls Try.prog 4 #[.agg #[.int .i64 a, .int .i64 b, .int .i64 c]] w fun e w' => e = .returned (.bool (true)) ∧ Below w.heap.size w w' := by
  exact law_of_afun (claw_ReduceForm a b c) rfl w

end Go.Proofs.Ytodpegnkengeiaa
