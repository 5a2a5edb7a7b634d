/- Cycles of indefinite forms: the walks. -/
import Derived.Test.YtnlabjnjcfapiaaH6
import Derived.Test.YtnlabjnjcfapiaaR0
import Derived.Test.YtnlabjnjcfapiaaF24
namespace Go.Proofs.Ytnlabjnjcfapiaa
open Go.RowKit
set_option linter.unusedSimpArgs false
set_option linter.unusedVariables false
set_option maxRecDepth 100000

/-- A positive discriminant. -/
def cdG (D : Int) : Bool := decide (5 ≤ D) && decide (D ≤ 1000) && decide (D % 4 < 2) && !isSq D
theorem cdG_RD {D : Int} (h : cdG D = true) : RD D (rt D) ∧ rt D ≤ 31 ∧ 5 ≤ D ∧ D ≤ 1000 := by
  simp only [cdG, Bool.and_eq_true, decide_eq_true_eq, Bool.not_eq_true', Bool.eq_false_iff, ne_eq, isSq_iff, not_and] at h
  obtain ⟨⟨⟨h1, h2⟩, h3⟩, h4⟩ := h
  obtain ⟨k0, k1, k2⟩ := rt_spec (n := D) (by omega)
  have h5 := h4 (by omega)
  exact ⟨⟨k0, by omega, k2⟩, by have := sq_lt (a := rt D) (b := 32) (by omega) (by omega); omega, h1, h2⟩

theorem impl_isPositiveDisc (d : Int) : AFun Try.prog 54 [] [I d] (Bo (cdG d)) [] [] := by
  refine afun_intro fn54 rfl rfl (by repeat' (first | exact trivial | (simp; done) | refine ⟨?_, ?_⟩)) ?_
  unfold ac54
  repeat' (first | ((with_reducible refine (?_ : (_ : Bool) = _)); (with_reducible rfl)) | ((with_reducible refine (?_ : (_ : Nat × Nat) = _)); (with_reducible rfl)) | (with_reducible refine leafRI ?_) | (with_reducible refine leafRB ?_) | (with_reducible refine leafI ?_) | (with_reducible refine leafB ?_) | ((with_reducible refine (?_ : (_ : Int) = _)); (with_reducible rfl)) | ((with_reducible refine (?_ : (_ : List (List Value)) = _)); (with_reducible rfl)) | ((with_reducible refine (?_ : (_ : Int) ≠ 0)); (first | assumption | omega | (simp; done) | (simp only [ints_len] at *; omega) | (simp; omega))) | ((with_reducible refine (?_ : (_ : Int) ≤ _)); (first | assumption | omega | (simp; done) | (simp only [ints_len] at *; omega) | (simp; omega))) | ((with_reducible refine (?_ : (_ : Int) < _)); (first | assumption | omega | (simp; done) | (simp only [ints_len] at *; omega) | (simp; omega))) | ((with_reducible refine (?_ : (_ : Nat) ≤ _)); (first | omega | (simp only [List.length_cons, List.length_nil]; omega) | (simp [ints]; done) | (simp; omega))) | ((with_reducible refine (?_ : (_ : Nat) < _)); (first | omega | (simp only [List.length_cons, List.length_nil]; omega) | (simp [ints]; done) | (simp; omega))) | ((with_reducible refine (?_ : (_ : Nat) = _)); (first | (with_reducible rfl) | (simp; done) | (simp only [fr_len]) | (simp only [ints_len]) | omega | (simp [*]; done))) | (refine And.intro ?_ ?_) | (intro h; first | (exact Bool.noConfusion h) | ((simp only [decide_eq_true_eq, decide_eq_false_iff_not, beq_iff_eq, bne_iff_ne, ne_eq, beq_eq_false_iff_ne, bne_eq_false_iff_eq, Bool.not_eq_true', Bool.not_eq_false', Bool.not_eq_true, Bool.not_eq_false, Int.not_le, Int.not_lt, Bool.and_eq_true, Bool.or_eq_true, Bool.or_eq_false_iff, Bool.and_eq_false_iff] at h); (try (first | (exact Bool.noConfusion h) | (exact (h trivial).elim)))) | skip) | ((refine (?_ : ACall _ _ _ _ _ _ _)); first | ((apply acall (impl_mod _ _ ?_ ?_)); (focus (repeat' (first | exact rfl | (refine And.intro ?_ ?_) | (simp only [ints_len]; done) | (simp; done) | omega)))) | ((apply acall (impl_isSquare _ ?_)); (focus (repeat' (first | exact rfl | (refine And.intro ?_ ?_) | (simp only [ints_len]; done) | (simp; done) | omega))))) | ((with_reducible refine (?_ : chk _ _ = true)); kernel_rfl) | ((with_reducible refine (?_ : (_ : IntKind) = _)); (with_reducible rfl)) | ((with_reducible refine (?_ : eqC (C.pvw _ _ _) (C.pvw _ _ _))); exact rfl) | ((with_reducible refine (?_ : eqC (C.pv (Value.int IntKind.u64 _)) _)); exact rfl) | exact trivial)
  all_goals first | omega | (unfold cdG; grind) | skip

/-- An indefinite form. -/
def cgG (f : T3) : Bool := num f.1 && num f.2.1 && num f.2.2 && cdG (dsc f.1 f.2.1 f.2.2)

theorem impl_isIndefinite (a b c : Int) : AFun Try.prog 43 [] [Fo a b c] (Bo (cgG (a, b, c))) [] [] := by
  refine afun_intro fn43 rfl rfl (by repeat' (first | exact trivial | (simp; done) | refine ⟨?_, ?_⟩)) ?_
  unfold ac43
  repeat' (first | ((with_reducible refine (?_ : (_ : Bool) = _)); (with_reducible rfl)) | ((with_reducible refine (?_ : (_ : Nat × Nat) = _)); (with_reducible rfl)) | (with_reducible refine leafRI ?_) | (with_reducible refine leafRB ?_) | (with_reducible refine leafI ?_) | (with_reducible refine leafB ?_) | ((with_reducible refine (?_ : (_ : Int) = _)); (with_reducible rfl)) | ((with_reducible refine (?_ : (_ : List (List Value)) = _)); (with_reducible rfl)) | ((with_reducible refine (?_ : (_ : Int) ≠ 0)); (first | assumption | omega | (simp; done) | (simp only [ints_len] at *; omega) | (simp; omega))) | ((with_reducible refine (?_ : (_ : Int) ≤ _)); (first | assumption | omega | (simp; done) | (simp only [ints_len] at *; omega) | (simp; omega))) | ((with_reducible refine (?_ : (_ : Int) < _)); (first | assumption | omega | (simp; done) | (simp only [ints_len] at *; omega) | (simp; omega))) | ((with_reducible refine (?_ : (_ : Nat) ≤ _)); (first | omega | (simp only [List.length_cons, List.length_nil]; omega) | (simp [ints]; done) | (simp; omega))) | ((with_reducible refine (?_ : (_ : Nat) < _)); (first | omega | (simp only [List.length_cons, List.length_nil]; omega) | (simp [ints]; done) | (simp; omega))) | ((with_reducible refine (?_ : (_ : Nat) = _)); (first | (with_reducible rfl) | (simp; done) | (simp only [fr_len]) | (simp only [ints_len]) | omega | (simp [*]; done))) | (refine And.intro ?_ ?_) | (intro h; first | (exact Bool.noConfusion h) | ((simp only [decide_eq_true_eq, decide_eq_false_iff_not, beq_iff_eq, bne_iff_ne, ne_eq, beq_eq_false_iff_ne, bne_eq_false_iff_eq, Bool.not_eq_true', Bool.not_eq_false', Bool.not_eq_true, Bool.not_eq_false, Int.not_le, Int.not_lt, Bool.and_eq_true, Bool.or_eq_true, Bool.or_eq_false_iff, Bool.and_eq_false_iff] at h); (try (first | (exact Bool.noConfusion h) | (exact (h trivial).elim)))) | skip) | ((refine (?_ : ACall _ _ _ _ _ _ _)); first | ((apply acall (impl_IsForm _ _ _)); (focus (repeat' (first | exact rfl | (refine And.intro ?_ ?_) | (simp only [ints_len]; done) | (simp; done) | omega)))) | ((apply acall (impl_disc _ _ _)); (focus (repeat' (first | exact rfl | (refine And.intro ?_ ?_) | (simp only [ints_len]; done) | (simp; done) | omega)))) | ((apply acall (impl_isPositiveDisc _)); (focus (repeat' (first | exact rfl | (refine And.intro ?_ ?_) | (simp only [ints_len]; done) | (simp; done) | omega))))) | ((with_reducible refine (?_ : chk _ _ = true)); kernel_rfl) | ((with_reducible refine (?_ : (_ : IntKind) = _)); (with_reducible rfl)) | ((with_reducible refine (?_ : eqC (C.pvw _ _ _) (C.pvw _ _ _))); exact rfl) | ((with_reducible refine (?_ : eqC (C.pv (Value.int IntKind.u64 _)) _)); exact rfl) | exact trivial)
  all_goals first | (unfold cgG; grind) | skip


theorem num_bd {x : Int} (h : num x = true) : -1000000 ≤ x ∧ x ≤ 1000000 := by
  simp only [num, Bool.and_eq_true, decide_eq_true_eq] at h
  omega
theorem dsc_ex {a b c : Int} (h1 : num a = true) (h2 : num b = true) (h3 : num c = true) : dsc a b c = b * b - 4 * a * c := by
  have a1 := num_bd h1
  have a2 := num_bd h2
  have a3 := num_bd h3
  have m1 := mul_bd (a := b) (b := b) (A := 1000000) (B := 1000000) (by omega) (by omega) (by omega) (by omega)
  have m2 := mul_bd (a := 4 * a) (b := c) (A := 4000000) (B := 1000000) (by omega) (by omega) (by omega) (by omega)
  unfold dsc
  rw [wrap_small (n := 4 * a) (by omega) (by omega), wrap_small (n := b * b) (by omega) (by omega), wrap_small (n := 4 * a * c) (by omega) (by omega)]
  exact wrap_small (by omega) (by omega)

/-- An indefinite form of the discriminant D. -/
structure IG (D : Int) (f : T3) : Prop where
  a : num f.1 = true
  b : num f.2.1 = true
  c : num f.2.2 = true
  d : dis D f
  g : cdG D = true
theorem IG.dsc {D : Int} {f : T3} (G : IG D f) : dsc f.1 f.2.1 f.2.2 = D := by
  rw [dsc_ex G.a G.b G.c]
  exact G.d
theorem IG_of {f : T3} (h : cgG f = true) : IG (dsc f.1 f.2.1 f.2.2) f := by
  simp only [cgG, Bool.and_eq_true] at h
  obtain ⟨⟨⟨h1, h2⟩, h3⟩, h4⟩ := h
  exact ⟨h1, h2, h3, (dsc_ex h1 h2 h3).symm, h4⟩

theorem IG.bd {D : Int} {f : T3} (G : IG D f) : (-1000000 ≤ f.1 ∧ f.1 ≤ 1000000) ∧ (-1000000 ≤ f.2.1 ∧ f.2.1 ≤ 1000000) ∧ (-1000000 ≤ f.2.2 ∧ f.2.2 ≤ 1000000) := ⟨num_bd G.a, num_bd G.b, num_bd G.c⟩

theorem impl_isCyclic (D a b c : Int) (G : IG D (a, b, c)) : AFun Try.prog 56 [] [Fo a b c] (Bo (cyc (rt D) (a, b, c))) [] [] := by
  have hd : dsc a b c = D := G.dsc
  obtain ⟨b1, b2, b3⟩ := G.bd
  obtain ⟨R, r1, d1, d2⟩ := cdG_RD G.g
  have r0 := R.p
  dsimp only at b1 b2 b3
  clear R G
  have hr := impl_root D (by omega) (by omega)
  have h1 := impl_disc a b c
  rw [hd] at h1
  unfold cyc
  dsimp only
  generalize rt D = r at *
  have w1 : wrap64 (r - b) = r - b := wrap_small (by omega) (by omega)
  have w2 : wrap64 (r + b) = r + b := wrap_small (by omega) (by omega)
  have w3 : wrap64 (2 * (a.natAbs : Int)) = 2 * (a.natAbs : Int) := wrap_small (by omega) (by omega)
  refine afun_intro fn56 rfl rfl (by repeat' (first | exact trivial | (simp; done) | refine ⟨?_, ?_⟩)) ?_
  unfold ac56
  repeat' (first | ((with_reducible refine (?_ : (_ : Bool) = _)); (with_reducible rfl)) | ((with_reducible refine (?_ : (_ : Nat × Nat) = _)); (with_reducible rfl)) | (with_reducible refine leafRI ?_) | (with_reducible refine leafRB ?_) | (with_reducible refine leafI ?_) | (with_reducible refine leafB ?_) | ((with_reducible refine (?_ : (_ : Int) = _)); (with_reducible rfl)) | ((with_reducible refine (?_ : (_ : List (List Value)) = _)); (with_reducible rfl)) | ((with_reducible refine (?_ : (_ : Int) ≠ 0)); (first | assumption | omega | (simp; done) | (simp only [ints_len] at *; omega) | (simp; omega))) | ((with_reducible refine (?_ : (_ : Int) ≤ _)); (first | assumption | omega | (simp; done) | (simp only [ints_len] at *; omega) | (simp; omega))) | ((with_reducible refine (?_ : (_ : Int) < _)); (first | assumption | omega | (simp; done) | (simp only [ints_len] at *; omega) | (simp; omega))) | ((with_reducible refine (?_ : (_ : Nat) ≤ _)); (first | omega | (simp only [List.length_cons, List.length_nil]; omega) | (simp [ints]; done) | (simp; omega))) | ((with_reducible refine (?_ : (_ : Nat) < _)); (first | omega | (simp only [List.length_cons, List.length_nil]; omega) | (simp [ints]; done) | (simp; omega))) | ((with_reducible refine (?_ : (_ : Nat) = _)); (first | (with_reducible rfl) | (simp; done) | (simp only [fr_len]) | (simp only [ints_len]) | omega | (simp [*]; done))) | (refine And.intro ?_ ?_) | (intro h; first | (exact Bool.noConfusion h) | ((simp only [decide_eq_true_eq, decide_eq_false_iff_not, beq_iff_eq, bne_iff_ne, ne_eq, beq_eq_false_iff_ne, bne_eq_false_iff_eq, Bool.not_eq_true', Bool.not_eq_false', Bool.not_eq_true, Bool.not_eq_false, Int.not_le, Int.not_lt, Bool.and_eq_true, Bool.or_eq_true, Bool.or_eq_false_iff, Bool.and_eq_false_iff] at h); (try (first | (exact Bool.noConfusion h) | (exact (h trivial).elim)))) | skip) | ((refine (?_ : ACall _ _ _ _ _ _ _)); first | ((apply acall (h1)); (focus (repeat' (first | exact rfl | (refine And.intro ?_ ?_) | (simp only [ints_len]; done) | (simp; done) | omega)))) | ((apply acall (hr)); (focus (repeat' (first | exact rfl | (refine And.intro ?_ ?_) | (simp only [ints_len]; done) | (simp; done) | omega)))) | ((apply acall (impl_abs _ ?_ ?_)); (focus (repeat' (first | exact rfl | (refine And.intro ?_ ?_) | (simp only [ints_len]; done) | (simp; done) | omega))))) | ((with_reducible refine (?_ : chk _ _ = true)); kernel_rfl) | ((with_reducible refine (?_ : (_ : IntKind) = _)); (with_reducible rfl)) | ((with_reducible refine (?_ : eqC (C.pvw _ _ _) (C.pvw _ _ _))); exact rfl) | ((with_reducible refine (?_ : eqC (C.pv (Value.int IntKind.u64 _)) _)); exact rfl) | exact trivial)
  all_goals first | omega | grind | skip

/-- The last entry of the step's matrix. -/
def cme (r : Int) (f : T3) : Int := (f.2.1 + ccb r f.2.1 f.2.2).tdiv (2 * f.2.2)
theorem cme_ex {D : Int} {f : T3} (G : IG D f) : cnx D (rt D) f = (f.2.2, 2 * f.2.2 * cme (rt D) f - f.2.1, f.1 - f.2.1 * cme (rt D) f + f.2.2 * cme (rt D) f * cme (rt D) f) ∧ ccb (rt D) f.2.1 f.2.2 = 2 * f.2.2 * cme (rt D) f - f.2.1 ∧ -1000000 ≤ ccb (rt D) f.2.1 f.2.2 ∧ ccb (rt D) f.2.1 f.2.2 ≤ 1000000 := by
  obtain ⟨R, r1, d1, d2⟩ := cdG_RD G.g
  have r0 := R.p
  have hc := (ne_of_dis R G.d).2
  obtain ⟨e, h1, h2, h3, h4⟩ := cnx_ex R G.d
  obtain ⟨b1, b2, b3⟩ := G.bd
  have he : cme (rt D) f = e := by
    unfold cme
    rw [h2, show f.2.1 + (2 * f.2.2 * e - f.2.1) = (2 * f.2.2) * e by omega]
    exact Int.mul_tdiv_cancel_left _ (by omega)
  rw [he]
  refine ⟨h1, h2, ?_, ?_⟩
  · unfold ctop at h3
    split at h3 <;> omega
  · unfold ctop at h4
    split at h4 <;> omega

theorem tdiv_nat (x y : Int) : (x.tdiv y).natAbs ≤ x.natAbs := by
  rw [Int.natAbs_tdiv]
  exact Nat.div_le_self _ _

abbrev PFM (f : T3) (m : T4) : V := .tup [(true, [cI f.1, cI f.2.1, cI f.2.2]), (true, [cI m.1, cI m.2.1, cI m.2.2.1, cI m.2.2.2])]
theorem impl_neighbour (D a b c : Int) (G : IG D (a, b, c)) : AFun Try.prog 45 [] [Fo a b c] (PFM (cnx D (rt D) (a, b, c)) (0, -1, 1, cme (rt D) (a, b, c))) [] [] := by
  have hd : dsc a b c = D := G.dsc
  obtain ⟨b1, b2, b3⟩ := G.bd
  obtain ⟨R, r1, d1, d2⟩ := cdG_RD G.g
  have hc := (ne_of_dis R G.d).2
  obtain ⟨k1, k2, k3, k4⟩ := cme_ex G
  have r0 := R.p
  dsimp only at b1 b2 b3 hc k1 k2 k3 k4
  clear R G k1
  have hr := impl_root D (by omega) (by omega)
  have h1 := impl_disc a b c
  rw [hd] at h1
  unfold cme cnx
  unfold cme at k2
  dsimp only at k2 ⊢
  generalize rt D = r at *
  have w3 : wrap64 (2 * (c.natAbs : Int)) = 2 * (c.natAbs : Int) := wrap_small (by omega) (by omega)
  have w4 : wrap64 (2 * c) = 2 * c := wrap_small (by omega) (by omega)
  have w9 : wrap64 (4 * c) = 4 * c := wrap_small (by omega) (by omega)
  have w5 : wrap64 (b + ccb r b c) = b + ccb r b c := wrap_small (by omega) (by omega)
  have w6 : wrap64 (ccb r b c) = ccb r b c := wrap_small (by omega) (by omega)
  have w7 : wrap64 (ctop r c + b) = ctop r c + b := by
    unfold ctop
    split <;> exact wrap_small (by omega) (by omega)
  have w8 : wrap64 ((b + ccb r b c).tdiv (2 * c)) = (b + ccb r b c).tdiv (2 * c) := by
    have := tdiv_nat (b + ccb r b c) (2 * c)
    exact wrap_small (by omega) (by omega)
  have m1 := mul_bd (a := ccb r b c) (b := ccb r b c) (A := 1000000) (B := 1000000) (by omega) (by omega) (by omega) (by omega)
  have w10 : wrap64 (ccb r b c * ccb r b c) = ccb r b c * ccb r b c := wrap_small (by omega) (by omega)
  have w11 : wrap64 (ccb r b c * ccb r b c - D) = ccb r b c * ccb r b c - D := wrap_small (by omega) (by omega)
  have w12 : wrap64 ((ccb r b c * ccb r b c - D).tdiv (4 * c)) = (ccb r b c * ccb r b c - D).tdiv (4 * c) := by
    have := tdiv_nat (ccb r b c * ccb r b c - D) (4 * c)
    exact wrap_small (by omega) (by omega)
  refine afun_intro fn45 rfl rfl (by repeat' (first | exact trivial | (simp; done) | refine ⟨?_, ?_⟩)) ?_
  unfold ac45
  repeat' (first | ((with_reducible refine (?_ : (_ : Bool) = _)); (with_reducible rfl)) | ((with_reducible refine (?_ : (_ : Nat × Nat) = _)); (with_reducible rfl)) | (with_reducible refine leafRI ?_) | (with_reducible refine leafRB ?_) | (with_reducible refine leafI ?_) | (with_reducible refine leafB ?_) | ((with_reducible refine (?_ : (_ : Int) = _)); (with_reducible rfl)) | ((with_reducible refine (?_ : (_ : List (List Value)) = _)); (with_reducible rfl)) | ((with_reducible refine (?_ : (_ : Int) ≠ 0)); (first | assumption | omega | (simp; done) | (simp only [ints_len] at *; omega) | (simp; omega))) | ((with_reducible refine (?_ : (_ : Int) ≤ _)); (first | assumption | omega | (simp; done) | (simp only [ints_len] at *; omega) | (simp; omega))) | ((with_reducible refine (?_ : (_ : Int) < _)); (first | assumption | omega | (simp; done) | (simp only [ints_len] at *; omega) | (simp; omega))) | ((with_reducible refine (?_ : (_ : Nat) ≤ _)); (first | omega | (simp only [List.length_cons, List.length_nil]; omega) | (simp [ints]; done) | (simp; omega))) | ((with_reducible refine (?_ : (_ : Nat) < _)); (first | omega | (simp only [List.length_cons, List.length_nil]; omega) | (simp [ints]; done) | (simp; omega))) | ((with_reducible refine (?_ : (_ : Nat) = _)); (first | (with_reducible rfl) | (simp; done) | (simp only [fr_len]) | (simp only [ints_len]) | omega | (simp [*]; done))) | (refine And.intro ?_ ?_) | (intro h; first | (exact Bool.noConfusion h) | ((simp only [decide_eq_true_eq, decide_eq_false_iff_not, beq_iff_eq, bne_iff_ne, ne_eq, beq_eq_false_iff_ne, bne_eq_false_iff_eq, Bool.not_eq_true', Bool.not_eq_false', Bool.not_eq_true, Bool.not_eq_false, Int.not_le, Int.not_lt, Bool.and_eq_true, Bool.or_eq_true, Bool.or_eq_false_iff, Bool.and_eq_false_iff] at h); (try (first | (exact Bool.noConfusion h) | (exact (h trivial).elim)))) | skip) | ((refine (?_ : ACall _ _ _ _ _ _ _)); first | ((apply acall (h1)); (focus (repeat' (first | exact rfl | (refine And.intro ?_ ?_) | (simp only [ints_len]; done) | (simp; done) | omega)))) | ((apply acall (hr)); (focus (repeat' (first | exact rfl | (refine And.intro ?_ ?_) | (simp only [ints_len]; done) | (simp; done) | omega)))) | ((apply acall (impl_abs _ ?_ ?_)); (focus (repeat' (first | exact rfl | (refine And.intro ?_ ?_) | (simp only [ints_len]; done) | (simp; done) | omega)))) | ((apply acall (impl_mod _ _ ?_ ?_)); (focus (repeat' (first | exact rfl | (refine And.intro ?_ ?_) | (simp only [ints_len]; done) | (simp; done) | omega))))) | ((with_reducible refine (?_ : chk _ _ = true)); kernel_rfl) | ((with_reducible refine (?_ : (_ : IntKind) = _)); (with_reducible rfl)) | ((with_reducible refine (?_ : eqC (C.pvw _ _ _) (C.pvw _ _ _))); exact rfl) | ((with_reducible refine (?_ : eqC (C.pv (Value.int IntKind.u64 _)) _)); exact rfl) | exact trivial)
  all_goals first | omega | skip
  all_goals first
    | (have ct : ctop r c = (c.natAbs : Int) := (by unfold ctop; rw [if_pos (by omega)])
       rw [ct] at w7
       have e : ccb r b c = (c.natAbs : Int) - ((c.natAbs : Int) + b) % (2 * (c.natAbs : Int)) := (by unfold ccb; rw [ct])
       simp only [w7, w3, ← e, w6, w5, w4, w8, w9, w10, w11, w12]
       done)
    | (have ct : ctop r c = r := (by unfold ctop; rw [if_neg (by omega)])
       rw [ct] at w7
       have e : ccb r b c = r - (r + b) % (2 * (c.natAbs : Int)) := (by unfold ccb; rw [ct])
       simp only [w7, w3, ← e, w6, w5, w4, w8, w9, w10, w11, w12]
       done)
    | skip

end Go.Proofs.Ytnlabjnjcfapiaa
