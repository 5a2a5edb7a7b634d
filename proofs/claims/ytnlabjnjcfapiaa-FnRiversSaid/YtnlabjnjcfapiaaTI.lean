/- Words of the river: the walks. -/
import Derived.Test.YtnlabjnjcfapiaaTU
import Derived.Test.YtnlabjnjcfapiaaHB
import Derived.Test.YtnlabjnjcfapiaaHL
namespace Go.Proofs.Ytnlabjnjcfapiaa
open Go.RowKit
set_option linter.unusedSimpArgs false
set_option linter.unusedVariables false
set_option maxRecDepth 100000
set_option maxHeartbeats 2000000

/-! strings of letters -/
def ltr (b : Bool) : UInt8 := if b then 112 else 110
def wd (l : List Bool) : ByteArray := .mk (l.map ltr).toArray
def lw (b : Bool) : ByteArray := if b then .mk #[112] else .mk #[110]
theorem wd_size (l : List Bool) : (wd l).size = l.length := by
  show (l.map ltr).toArray.size = _
  simp
theorem wd_snoc (l : List Bool) (b : Bool) : wd l ++ lw b = wd (l ++ [b]) := by
  apply ByteArray.ext
  rw [ByteArray.data_append]
  cases b <;> simp [wd, lw, ltr]
theorem wd_one (b : Bool) : lw b = wd [b] := by cases b <;> rfl
theorem wd_get (l : List Bool) {i : Nat} (h : i < l.length) : (wd l)[i]? = some (ltr (l[i]'h)) := by
  have h2 : i < (wd l).size := by rw [wd_size]; exact h
  rw [Go.ByteArray.getElem?_lt' _ _ h2]
  congr 1
  have h3 : i < (l.map ltr).toArray.size := by simpa using h
  show (l.map ltr).toArray[i]'h3 = _
  simp only [List.getElem_toArray, List.getElem_map]
theorem lw_data (b : Bool) : (lw b).data = #[ltr b] := by cases b <;> rfl
theorem wd_ext (l : List Bool) {i : Nat} (h : i < l.length) : (wd l).extract i (i + 1) = lw (l[i]'h) := by
  apply ByteArray.ext
  rw [ByteArray.data_extract]
  have e : (wd l).data = (l.map ltr).toArray := rfl
  rw [e, lw_data]
  apply Array.ext
  · simp; omega
  · intro j h1 h2
    have hj : j = 0 := by simpa using h2
    subst hj
    simp [Array.getElem_extract]
theorem ltr_ne (a b : Bool) : ((ltr a).toNat : Int) ≠ ((ltr b).toNat : Int) ↔ a ≠ b := by cases a <;> cases b <;> decide
theorem sidx_at {L : List Bool} {j : Int} {k : UInt8 → Prop} (h0 : 0 ≤ j) (h1 : j.toNat < L.length) (hk : k (ltr (L[j.toNat]'h1))) : ∃ b : UInt8, (0 ≤ j ∧ (wd L)[j.toNat]? = some b) ∧ k b :=
  ⟨_, ⟨h0, wd_get L h1⟩, hk⟩

/-! the river's forms are small -/
theorem river_bd {D : Int} (hD : D ≤ 2000) {g : T3} (h : dis D g) (S : Sm g) : (1 ≤ g.1 ∧ g.1 ≤ 500) ∧ (-63 ≤ g.2.1 ∧ g.2.1 ≤ 63) ∧ (-500 ≤ g.2.2 ∧ g.2.2 ≤ -1) := by
  have ha := S.a
  have hc := S.c
  unfold dis at h
  obtain ⟨a, b, c⟩ := g
  dsimp only at *
  have q1 := Int.mul_le_mul_of_nonneg_left (show 1 ≤ -c by omega) (show 0 ≤ 4 * a by omega)
  have q5 := Int.mul_le_mul_of_nonneg_left (show 1 ≤ a by omega) (show 0 ≤ 4 * -c by omega)
  have q2 : 4 * a * -c = -(4 * a * c) := by grind
  have q6 : 4 * -c * a = -(4 * a * c) := by grind
  have q3 := sq_nn3 b
  have q4 : b * b ≤ 2000 := by omega
  refine ⟨⟨ha, by omega⟩, ⟨?_, ?_⟩, ⟨by omega, by omega⟩⟩
  · refine Int.not_lt.1 fun hlt => ?_
    have := Int.mul_le_mul (show 64 ≤ -b by omega) (show 64 ≤ -b by omega) (by omega) (by omega)
    have : -b * -b = b * b := by grind
    omega
  · refine Int.not_lt.1 fun hlt => ?_
    have := Int.mul_le_mul (show 64 ≤ b by omega) (show 64 ≤ b by omega) (by omega) (by omega)
    omega
/-- An edge of the river. -/
structure RE (D : Int) (f : T3) : Prop where
  d : dis D f
  s : Sm f
  d1 : 1 ≤ D
  d2 : D ≤ 2000
  n : isSq D = false
theorem RE.rd {D : Int} {f : T3} (E : RE D f) : RD D (rt D) := by
  have n := E.n
  have d1 := E.d1
  have d2 := E.d2
  obtain ⟨k0, k1, k2⟩ := rt_spec (n := D) (by omega)
  have h5 : ¬ rt D * rt D = D := fun e => by
    have : isSq D = true := isSq_iff.2 ⟨by omega, e⟩
    rw [n] at this
    cases this
  exact ⟨k0, by omega, k2⟩
theorem RE.bd {D : Int} {f : T3} (E : RE D f) : (1 ≤ f.1 ∧ f.1 ≤ 500) ∧ (-63 ≤ f.2.1 ∧ f.2.1 ≤ 63) ∧ (-500 ≤ f.2.2 ∧ f.2.2 ≤ -1) := river_bd E.d2 E.d E.s
theorem RE.step {D : Int} {f : T3} (E : RE D f) : RE D (Rv f) := by
  obtain ⟨h1, h2⟩ := Rv_ok E.rd E.d E.s
  exact ⟨h1, h2, E.d1, E.d2, E.n⟩
theorem RE.at {D : Int} {f : T3} (E : RE D f) : ∀ k, RE D (Rk f k)
  | 0 => E
  | k + 1 => (E.at k).step
def reB (f : T3) : Bool := rvG f && decide (0 < f.1) && decide (f.2.2 < 0)
theorem RE.dsc {D : Int} {f : T3} (E : RE D f) : dsc f.1 f.2.1 f.2.2 = D := by
  obtain ⟨b1, b2, b3⟩ := E.bd
  have h := E.d
  unfold dis at h
  have m1 := mul_bd (a := f.2.1) (b := f.2.1) (A := 63) (B := 63) b2.1 b2.2 b2.1 b2.2
  have m2 := mul_bd (a := 4 * f.1) (b := f.2.2) (A := 2000) (B := 500) (by omega) (by omega) (by omega) (by omega)
  unfold Go.Proofs.Ytnlabjnjcfapiaa.dsc
  rw [wrap_small (n := 4 * f.1) (by omega) (by omega), wrap_small (n := f.2.1 * f.2.1) (by omega) (by omega), wrap_small (n := 4 * f.1 * f.2.2) (by omega) (by omega), wrap_small (by omega) (by omega)]
  exact h
theorem RE.num {D : Int} {f : T3} (E : RE D f) : (Go.Proofs.Ytnlabjnjcfapiaa.num f.1 = true ∧ Go.Proofs.Ytnlabjnjcfapiaa.num f.2.1 = true) ∧ Go.Proofs.Ytnlabjnjcfapiaa.num f.2.2 = true := by
  obtain ⟨b1, b2, b3⟩ := E.bd
  exact ⟨⟨num_iff.2 (by omega), num_iff.2 (by omega)⟩, num_iff.2 (by omega)⟩
theorem RE.ok {D : Int} {f : T3} (E : RE D f) : reB f = true := by
  obtain ⟨⟨n1, n2⟩, n3⟩ := E.num
  have d1 := E.d1
  have d2 := E.d2
  have a := E.s.a
  have c := E.s.c
  simp only [reB, rvG, E.dsc, n1, n2, n3, E.n, Bool.true_and, Bool.and_eq_true, decide_eq_true_eq, Bool.not_false, Bool.and_true]
  exact ⟨⟨⟨d1, d2⟩, a⟩, c⟩
theorem RE_of {f : T3} (h : reB f = true) : RE (dsc f.1 f.2.1 f.2.2) f := by
  obtain ⟨a, b, c⟩ := f
  simp only [reB, Bool.and_eq_true, decide_eq_true_eq] at h
  obtain ⟨⟨h1, h2⟩, h3⟩ := h
  have I := rvG_ok h1
  have hn : isSq (dsc a b c) = false := by
    simp only [rvG, Bool.and_eq_true, Bool.not_eq_true'] at h1
    exact h1.2
  exact ⟨I.d, ⟨h2, h3⟩, I.d1, I.d2, hn⟩

/-! the period, the word -/
structure PerR (f : T3) (p : Nat) : Prop where
  p1 : 1 ≤ p
  p2 : p ≤ 70000
  per : Rk f p = f
  min : ∀ k, 1 ≤ k → k < p → Rk f k ≠ f
noncomputable def riP (f : T3) : Nat := Classical.epsilon fun p => PerR f p
theorem RE.per {D : Int} {f : T3} (E : RE D f) : PerR f (riP f) := by
  obtain ⟨p, h1, h2, h3, h4⟩ := Rk_per E.rd E.d2 E.d E.s
  exact Classical.epsilon_spec (p := fun p => PerR f p) ⟨p, h1, h2, h3, h4⟩
def wl (f : T3) (k : Nat) : List Bool := (List.range k).map fun i => lt3 (Rk f i)
theorem wl_len (f : T3) (k : Nat) : (wl f k).length = k := by simp [wl]
theorem wl_s (f : T3) (k : Nat) : wl f (k + 1) = wl f k ++ [lt3 (Rk f k)] := by simp [wl, List.range_succ]
theorem wl_get (f : T3) {i k : Nat} (h : i < (wl f k).length) : (wl f k)[i]'h = lt3 (Rk f i) := by simp [wl]
noncomputable def rwB (f : T3) : ByteArray := if reB f then wd (wl f (riP f)) else .mk #[]

/-! one step -/
theorem RE.sum {D : Int} {a b c : Int} (E : RE D (a, b, c)) : wrap64 (wrap64 (a + b) + c) = rs3 (a, b, c) ∧ wrap64 (b + wrap64 (2 * c)) = b + 2 * c ∧ wrap64 (b + wrap64 (2 * a)) = b + 2 * a ∧ rs3 (a, b, c) ≠ 0 := by
  obtain ⟨b1, b2, b3⟩ := E.bd
  dsimp only at b1 b2 b3
  refine ⟨?_, ?_, ?_, rs_ne E.rd E.d⟩
  · rw [wrap_small (n := a + b) (by omega) (by omega), wrap_small (by omega) (by omega)]; rfl
  · rw [wrap_small (n := 2 * c) (by omega) (by omega), wrap_small (by omega) (by omega)]
  · rw [wrap_small (n := 2 * a) (by omega) (by omega), wrap_small (by omega) (by omega)]

theorem impl_riverStep (D a b c : Int) (E : RE D (a, b, c)) : AFun Try.prog 13 [] [Fo a b c] (.tup [(true, c3 (Rv (a, b, c))), (false, [.pv (.string (lw (lt3 (a, b, c))))])]) [] [] := by
  obtain ⟨w1, w2, w3, w0⟩ := E.sum
  by_cases h : 0 < rs3 (a, b, c)
  · have e1 : lt3 (a, b, c) = true := decide_eq_true h
    rw [Rv_pos (by omega), e1]
    rw [← w1] at h ⊢
    rw [show (b + 2 * c : Int) = wrap64 (b + wrap64 (2 * c)) from w2.symm]
    dsimp only [lw]
    refine afun_intro fn13 rfl rfl (by repeat' (first | exact trivial | (simp; done) | refine ⟨?_, ?_⟩)) ?_
    unfold ac13
    repeat' (first | ((with_reducible refine (?_ : (_ : Bool) = _)); (with_reducible rfl)) | ((with_reducible refine (?_ : (_ : Nat × Nat) = _)); (with_reducible rfl)) | (with_reducible refine leafRI ?_) | (with_reducible refine leafRB ?_) | (with_reducible refine leafI ?_) | (with_reducible refine leafB ?_) | ((with_reducible refine (?_ : (_ : Int) = _)); (with_reducible rfl)) | ((with_reducible refine (?_ : (_ : List (List Value)) = _)); (with_reducible rfl)) | ((with_reducible refine (?_ : (_ : Int) ≠ 0)); (first | assumption | omega | (simp; done) | (simp only [ints_len] at *; omega) | (simp; omega))) | ((with_reducible refine (?_ : (_ : Int) ≤ _)); (first | assumption | omega | (simp; done) | (simp only [ints_len] at *; omega) | (simp; omega))) | ((with_reducible refine (?_ : (_ : Int) < _)); (first | assumption | omega | (simp; done) | (simp only [ints_len] at *; omega) | (simp; omega))) | ((with_reducible refine (?_ : (_ : Nat) ≤ _)); (first | omega | (simp only [List.length_cons, List.length_nil]; omega) | (simp [ints]; done) | (simp; omega))) | ((with_reducible refine (?_ : (_ : Nat) < _)); (first | omega | (simp only [List.length_cons, List.length_nil]; omega) | (simp [ints]; done) | (simp; omega))) | ((with_reducible refine (?_ : (_ : Nat) = _)); (first | (with_reducible rfl) | (simp; done) | (simp only [fr_len]) | (simp only [ints_len]) | omega | (simp [*]; done))) | (refine And.intro ?_ ?_) | (intro h; first | (exact Bool.noConfusion h) | ((simp only [decide_eq_true_eq, decide_eq_false_iff_not, beq_iff_eq, bne_iff_ne, ne_eq, beq_eq_false_iff_ne, bne_eq_false_iff_eq, Bool.not_eq_true', Bool.not_eq_false', Bool.not_eq_true, Bool.not_eq_false, Int.not_le, Int.not_lt, Bool.and_eq_true, Bool.or_eq_true, Bool.or_eq_false_iff, Bool.and_eq_false_iff] at h); (try (first | (exact absurd trivial h) | (exfalso; omega)))) | skip) | ((with_reducible refine (?_ : chk _ _ = true)); kernel_rfl) | ((with_reducible refine (?_ : (_ : IntKind) = _)); (with_reducible rfl)) | ((with_reducible refine (?_ : eqC (C.pvw _ _ _) (C.pvw _ _ _))); exact rfl) | ((with_reducible refine (?_ : eqC (C.pv (Value.int IntKind.u64 _)) _)); exact rfl) | ((with_reducible refine (?_ : eqC (C.pv (Value.string _)) _)); exact rfl) | exact trivial)
  · have e1 : lt3 (a, b, c) = false := decide_eq_false h
    rw [Rv_neg (by omega), e1]
    rw [← w1] at h ⊢
    dsimp only
    rw [show (b + 2 * a : Int) = wrap64 (b + wrap64 (2 * a)) from w3.symm]
    dsimp only [lw]
    refine afun_intro fn13 rfl rfl (by repeat' (first | exact trivial | (simp; done) | refine ⟨?_, ?_⟩)) ?_
    unfold ac13
    repeat' (first | ((with_reducible refine (?_ : (_ : Bool) = _)); (with_reducible rfl)) | ((with_reducible refine (?_ : (_ : Nat × Nat) = _)); (with_reducible rfl)) | (with_reducible refine leafRI ?_) | (with_reducible refine leafRB ?_) | (with_reducible refine leafI ?_) | (with_reducible refine leafB ?_) | ((with_reducible refine (?_ : (_ : Int) = _)); (with_reducible rfl)) | ((with_reducible refine (?_ : (_ : List (List Value)) = _)); (with_reducible rfl)) | ((with_reducible refine (?_ : (_ : Int) ≠ 0)); (first | assumption | omega | (simp; done) | (simp only [ints_len] at *; omega) | (simp; omega))) | ((with_reducible refine (?_ : (_ : Int) ≤ _)); (first | assumption | omega | (simp; done) | (simp only [ints_len] at *; omega) | (simp; omega))) | ((with_reducible refine (?_ : (_ : Int) < _)); (first | assumption | omega | (simp; done) | (simp only [ints_len] at *; omega) | (simp; omega))) | ((with_reducible refine (?_ : (_ : Nat) ≤ _)); (first | omega | (simp only [List.length_cons, List.length_nil]; omega) | (simp [ints]; done) | (simp; omega))) | ((with_reducible refine (?_ : (_ : Nat) < _)); (first | omega | (simp only [List.length_cons, List.length_nil]; omega) | (simp [ints]; done) | (simp; omega))) | ((with_reducible refine (?_ : (_ : Nat) = _)); (first | (with_reducible rfl) | (simp; done) | (simp only [fr_len]) | (simp only [ints_len]) | omega | (simp [*]; done))) | (refine And.intro ?_ ?_) | (intro h; first | (exact Bool.noConfusion h) | ((simp only [decide_eq_true_eq, decide_eq_false_iff_not, beq_iff_eq, bne_iff_ne, ne_eq, beq_eq_false_iff_ne, bne_eq_false_iff_eq, Bool.not_eq_true', Bool.not_eq_false', Bool.not_eq_true, Bool.not_eq_false, Int.not_le, Int.not_lt, Bool.and_eq_true, Bool.or_eq_true, Bool.or_eq_false_iff, Bool.and_eq_false_iff] at h); (try (first | (exact absurd trivial h) | (exfalso; omega)))) | skip) | ((with_reducible refine (?_ : chk _ _ = true)); kernel_rfl) | ((with_reducible refine (?_ : (_ : IntKind) = _)); (with_reducible rfl)) | ((with_reducible refine (?_ : eqC (C.pvw _ _ _) (C.pvw _ _ _))); exact rfl) | ((with_reducible refine (?_ : eqC (C.pv (Value.int IntKind.u64 _)) _)); exact rfl) | ((with_reducible refine (?_ : eqC (C.pv (Value.string _)) _)); exact rfl) | exact trivial)

theorem spec_tpFlow (D a b c : Int) (E : RE D (a, b, c)) : AFun Try.prog 27 [] [Fo a b c] (.tup [(true, c3 (Rv (a, b, c))), (false, [cB (lt3 (a, b, c))])]) [] [] := by
  obtain ⟨w1, w2, w3, w0⟩ := E.sum
  by_cases h : 0 < rs3 (a, b, c)
  · have e1 : lt3 (a, b, c) = true := decide_eq_true h
    rw [Rv_pos (by omega), e1]
    rw [← w1] at h ⊢
    rw [show (b + 2 * c : Int) = wrap64 (b + wrap64 (2 * c)) from w2.symm]
    refine afun_intro fn27 rfl rfl (by repeat' (first | exact trivial | (simp; done) | refine ⟨?_, ?_⟩)) ?_
    unfold ac27
    repeat' (first | ((with_reducible refine (?_ : (_ : Bool) = _)); (with_reducible rfl)) | ((with_reducible refine (?_ : (_ : Nat × Nat) = _)); (with_reducible rfl)) | (with_reducible refine leafRI ?_) | (with_reducible refine leafRB ?_) | (with_reducible refine leafI ?_) | (with_reducible refine leafB ?_) | ((with_reducible refine (?_ : (_ : Int) = _)); (with_reducible rfl)) | ((with_reducible refine (?_ : (_ : List (List Value)) = _)); (with_reducible rfl)) | ((with_reducible refine (?_ : (_ : Int) ≠ 0)); (first | assumption | omega | (simp; done) | (simp only [ints_len] at *; omega) | (simp; omega))) | ((with_reducible refine (?_ : (_ : Int) ≤ _)); (first | assumption | omega | (simp; done) | (simp only [ints_len] at *; omega) | (simp; omega))) | ((with_reducible refine (?_ : (_ : Int) < _)); (first | assumption | omega | (simp; done) | (simp only [ints_len] at *; omega) | (simp; omega))) | ((with_reducible refine (?_ : (_ : Nat) ≤ _)); (first | omega | (simp only [List.length_cons, List.length_nil]; omega) | (simp [ints]; done) | (simp; omega))) | ((with_reducible refine (?_ : (_ : Nat) < _)); (first | omega | (simp only [List.length_cons, List.length_nil]; omega) | (simp [ints]; done) | (simp; omega))) | ((with_reducible refine (?_ : (_ : Nat) = _)); (first | (with_reducible rfl) | (simp; done) | (simp only [fr_len]) | (simp only [ints_len]) | omega | (simp [*]; done))) | (refine And.intro ?_ ?_) | (intro h; first | (exact Bool.noConfusion h) | ((simp only [decide_eq_true_eq, decide_eq_false_iff_not, beq_iff_eq, bne_iff_ne, ne_eq, beq_eq_false_iff_ne, bne_eq_false_iff_eq, Bool.not_eq_true', Bool.not_eq_false', Bool.not_eq_true, Bool.not_eq_false, Int.not_le, Int.not_lt, Bool.and_eq_true, Bool.or_eq_true, Bool.or_eq_false_iff, Bool.and_eq_false_iff] at h); (try (first | (exact absurd trivial h) | (exfalso; omega)))) | skip) | ((with_reducible refine (?_ : chk _ _ = true)); kernel_rfl) | ((with_reducible refine (?_ : (_ : IntKind) = _)); (with_reducible rfl)) | ((with_reducible refine (?_ : eqC (C.pvw _ _ _) (C.pvw _ _ _))); exact rfl) | ((with_reducible refine (?_ : eqC (C.pv (Value.int IntKind.u64 _)) _)); exact rfl) | ((with_reducible refine (?_ : eqC (C.pv (Value.string _)) _)); exact rfl) | exact trivial)
  · have e1 : lt3 (a, b, c) = false := decide_eq_false h
    rw [Rv_neg (by omega), e1]
    rw [← w1] at h ⊢
    dsimp only
    rw [show (b + 2 * a : Int) = wrap64 (b + wrap64 (2 * a)) from w3.symm]
    refine afun_intro fn27 rfl rfl (by repeat' (first | exact trivial | (simp; done) | refine ⟨?_, ?_⟩)) ?_
    unfold ac27
    repeat' (first | ((with_reducible refine (?_ : (_ : Bool) = _)); (with_reducible rfl)) | ((with_reducible refine (?_ : (_ : Nat × Nat) = _)); (with_reducible rfl)) | (with_reducible refine leafRI ?_) | (with_reducible refine leafRB ?_) | (with_reducible refine leafI ?_) | (with_reducible refine leafB ?_) | ((with_reducible refine (?_ : (_ : Int) = _)); (with_reducible rfl)) | ((with_reducible refine (?_ : (_ : List (List Value)) = _)); (with_reducible rfl)) | ((with_reducible refine (?_ : (_ : Int) ≠ 0)); (first | assumption | omega | (simp; done) | (simp only [ints_len] at *; omega) | (simp; omega))) | ((with_reducible refine (?_ : (_ : Int) ≤ _)); (first | assumption | omega | (simp; done) | (simp only [ints_len] at *; omega) | (simp; omega))) | ((with_reducible refine (?_ : (_ : Int) < _)); (first | assumption | omega | (simp; done) | (simp only [ints_len] at *; omega) | (simp; omega))) | ((with_reducible refine (?_ : (_ : Nat) ≤ _)); (first | omega | (simp only [List.length_cons, List.length_nil]; omega) | (simp [ints]; done) | (simp; omega))) | ((with_reducible refine (?_ : (_ : Nat) < _)); (first | omega | (simp only [List.length_cons, List.length_nil]; omega) | (simp [ints]; done) | (simp; omega))) | ((with_reducible refine (?_ : (_ : Nat) = _)); (first | (with_reducible rfl) | (simp; done) | (simp only [fr_len]) | (simp only [ints_len]) | omega | (simp [*]; done))) | (refine And.intro ?_ ?_) | (intro h; first | (exact Bool.noConfusion h) | ((simp only [decide_eq_true_eq, decide_eq_false_iff_not, beq_iff_eq, bne_iff_ne, ne_eq, beq_eq_false_iff_ne, bne_eq_false_iff_eq, Bool.not_eq_true', Bool.not_eq_false', Bool.not_eq_true, Bool.not_eq_false, Int.not_le, Int.not_lt, Bool.and_eq_true, Bool.or_eq_true, Bool.or_eq_false_iff, Bool.and_eq_false_iff] at h); (try (first | (exact absurd trivial h) | (exfalso; omega)))) | skip) | ((with_reducible refine (?_ : chk _ _ = true)); kernel_rfl) | ((with_reducible refine (?_ : (_ : IntKind) = _)); (with_reducible rfl)) | ((with_reducible refine (?_ : eqC (C.pvw _ _ _) (C.pvw _ _ _))); exact rfl) | ((with_reducible refine (?_ : eqC (C.pv (Value.int IntKind.u64 _)) _)); exact rfl) | ((with_reducible refine (?_ : eqC (C.pv (Value.string _)) _)); exact rfl) | exact trivial)

theorem impl_isRiverEdge (a b c : Int) : AFun Try.prog 12 [] [Fo a b c] (Bo (reB (a, b, c))) [] [] := by
  refine afun_intro fn12 rfl rfl (by repeat' (first | exact trivial | (simp; done) | refine ⟨?_, ?_⟩)) ?_
  unfold ac12
  repeat' (first | ((with_reducible refine (?_ : (_ : Bool) = _)); (with_reducible rfl)) | ((with_reducible refine (?_ : (_ : Nat × Nat) = _)); (with_reducible rfl)) | (with_reducible refine leafRI ?_) | (with_reducible refine leafRB ?_) | (with_reducible refine leafI ?_) | (with_reducible refine leafB ?_) | ((with_reducible refine (?_ : (_ : Int) = _)); (with_reducible rfl)) | ((with_reducible refine (?_ : (_ : List (List Value)) = _)); (with_reducible rfl)) | ((with_reducible refine (?_ : (_ : Int) ≠ 0)); (first | assumption | omega | (simp; done) | (simp only [ints_len] at *; omega) | (simp; omega))) | ((with_reducible refine (?_ : (_ : Int) ≤ _)); (first | assumption | omega | (simp; done) | (simp only [ints_len] at *; omega) | (simp; omega))) | ((with_reducible refine (?_ : (_ : Int) < _)); (first | assumption | omega | (simp; done) | (simp only [ints_len] at *; omega) | (simp; omega))) | ((with_reducible refine (?_ : (_ : Nat) ≤ _)); (first | omega | (simp only [List.length_cons, List.length_nil]; omega) | (simp [ints]; done) | (simp; omega))) | ((with_reducible refine (?_ : (_ : Nat) < _)); (first | omega | (simp only [List.length_cons, List.length_nil]; omega) | (simp [ints]; done) | (simp; omega))) | ((with_reducible refine (?_ : (_ : Nat) = _)); (first | (with_reducible rfl) | (simp; done) | (simp only [fr_len]) | (simp only [ints_len]) | omega | (simp [*]; done))) | (refine And.intro ?_ ?_) | (intro h; first | (exact Bool.noConfusion h) | ((simp only [decide_eq_true_eq, decide_eq_false_iff_not, beq_iff_eq, bne_iff_ne, ne_eq, beq_eq_false_iff_ne, bne_eq_false_iff_eq, Bool.not_eq_true', Bool.not_eq_false', Bool.not_eq_true, Bool.not_eq_false, Int.not_le, Int.not_lt, Bool.and_eq_true, Bool.or_eq_true, Bool.or_eq_false_iff, Bool.and_eq_false_iff] at h); (try (first | (exact Bool.noConfusion h) | (exact (h trivial).elim)))) | skip) | ((refine (?_ : ACall _ _ _ _ _ _ _)); first | ((apply acall (impl_hasRiver _ _ _)); (focus (repeat' (first | exact rfl | (refine And.intro ?_ ?_) | (simp only [ints_len]; done) | (simp; done) | omega))))) | ((with_reducible refine (?_ : chk _ _ = true)); kernel_rfl) | ((with_reducible refine (?_ : (_ : IntKind) = _)); (with_reducible rfl)) | ((with_reducible refine (?_ : eqC (C.pvw _ _ _) (C.pvw _ _ _))); exact rfl) | ((with_reducible refine (?_ : eqC (C.pv (Value.int IntKind.u64 _)) _)); exact rfl) | ((with_reducible refine (?_ : eqC (C.pv (Value.string _)) _)); exact rfl) | exact trivial)
  all_goals (unfold reB; grind)

theorem impl_RiverStep (D a b c : Int) (E : RE D (a, b, c)) : AFun Try.prog 8 [] [Fo a b c] (.tup [(true, c3 (Rv (a, b, c))), (false, [.pv (.string (lw (lt3 (a, b, c))))]), (false, [cB true])]) [] [] := by
  have h1 := impl_isRiverEdge a b c
  rw [E.ok] at h1
  have h2 := impl_riverStep D a b c E
  refine afun_intro fn8 rfl rfl (by repeat' (first | exact trivial | (simp; done) | refine ⟨?_, ?_⟩)) ?_
  unfold ac8
  repeat' (first | ((with_reducible refine (?_ : (_ : Bool) = _)); (with_reducible rfl)) | ((with_reducible refine (?_ : (_ : Nat × Nat) = _)); (with_reducible rfl)) | (with_reducible refine leafRI ?_) | (with_reducible refine leafRB ?_) | (with_reducible refine leafI ?_) | (with_reducible refine leafB ?_) | ((with_reducible refine (?_ : (_ : Int) = _)); (with_reducible rfl)) | ((with_reducible refine (?_ : (_ : List (List Value)) = _)); (with_reducible rfl)) | ((with_reducible refine (?_ : (_ : Int) ≠ 0)); (first | assumption | omega | (simp; done) | (simp only [ints_len] at *; omega) | (simp; omega))) | ((with_reducible refine (?_ : (_ : Int) ≤ _)); (first | assumption | omega | (simp; done) | (simp only [ints_len] at *; omega) | (simp; omega))) | ((with_reducible refine (?_ : (_ : Int) < _)); (first | assumption | omega | (simp; done) | (simp only [ints_len] at *; omega) | (simp; omega))) | ((with_reducible refine (?_ : (_ : Nat) ≤ _)); (first | omega | (simp only [List.length_cons, List.length_nil]; omega) | (simp [ints]; done) | (simp; omega))) | ((with_reducible refine (?_ : (_ : Nat) < _)); (first | omega | (simp only [List.length_cons, List.length_nil]; omega) | (simp [ints]; done) | (simp; omega))) | ((with_reducible refine (?_ : (_ : Nat) = _)); (first | (with_reducible rfl) | (simp; done) | (simp only [fr_len]) | (simp only [ints_len]) | omega | (simp [*]; done))) | (refine And.intro ?_ ?_) | (intro h; first | (exact Bool.noConfusion h) | ((simp only [decide_eq_true_eq, decide_eq_false_iff_not, beq_iff_eq, bne_iff_ne, ne_eq, beq_eq_false_iff_ne, bne_eq_false_iff_eq, Bool.not_eq_true', Bool.not_eq_false', Bool.not_eq_true, Bool.not_eq_false, Int.not_le, Int.not_lt, Bool.and_eq_true, Bool.or_eq_true, Bool.or_eq_false_iff, Bool.and_eq_false_iff] at h); (try (first | (exact absurd trivial h) | (exfalso; omega)))) | skip) | ((refine (?_ : ACall _ _ _ _ _ _ _)); first | ((apply acall (h1)); (focus ((repeat' (first | exact rfl | (refine And.intro ?_ ?_) | (simp only [ints_len]; done))); done))) | ((apply acall (h2)); (focus ((repeat' (first | exact rfl | (refine And.intro ?_ ?_) | (simp only [ints_len]; done))); done)))) | ((with_reducible refine (?_ : chk _ _ = true)); kernel_rfl) | ((with_reducible refine (?_ : (_ : IntKind) = _)); (with_reducible rfl)) | ((with_reducible refine (?_ : eqC (C.pvw _ _ _) (C.pvw _ _ _))); exact rfl) | ((with_reducible refine (?_ : eqC (C.pv (Value.int IntKind.u64 _)) _)); exact rfl) | ((with_reducible refine (?_ : eqC (C.pv (Value.string _)) _)); exact rfl) | exact trivial)

end Go.Proofs.Ytnlabjnjcfapiaa
