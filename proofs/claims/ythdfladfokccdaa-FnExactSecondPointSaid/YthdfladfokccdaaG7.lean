/- SecondPoint. -/
import Derived.Test.YthdfladfokccdaaF8
namespace Go.Proofs.Ythdfladfokccdaa
open Go.RowKit
set_option linter.unusedSimpArgs false
set_option linter.unusedVariables false
set_option maxRecDepth 100000
set_option maxHeartbeats 2000000

def thou (n : Int) : Bool := decide (-1000 ≤ n) && decide (n ≤ 1000)
/-- The machine's numbers. -/
def spK (a b m n : Int) : Int := wrap64 (wrap64 (wrap64 (a * m) * m) + wrap64 (wrap64 (b * n) * n))
def spL (a b x y m n : Int) : Int := wrap64 (wrap64 (wrap64 (a * x) * m) + wrap64 (wrap64 (b * y) * n))
def spX (k l x m : Int) : Int := wrap64 (wrap64 (k * x) - wrap64 (wrap64 (2 * l) * m))
def spZ (k z : Int) : Int := wrap64 (k * z)
def tsum (a b c x y z : Int) : Int := wrap64 (wrap64 (wrap64 (wrap64 (a * x) * x) + wrap64 (wrap64 (b * y) * y)) + wrap64 (wrap64 (c * z) * z))
theorem gcd_asc (a b c : Int) : Int.gcd (Int.gcd a b : Int) c = Int.gcd a (Int.gcd b c : Int) := by
  simp only [Int.gcd_eq_natAbs_gcd_natAbs, Int.natAbs_natCast, Nat.gcd_assoc]
theorem sp_bd {a b x y z m n : Int} (ha : coef a = true) (hb : coef b = true) (hx : thou x = true) (hy : thou y = true) (hz : thou z = true) (hm : thou m = true) (hn : thou n = true) :
    (-10000000000000 ≤ spX (spK a b m n) (spL a b x y m n) x m ∧ spX (spK a b m n) (spL a b x y m n) x m ≤ 10000000000000) ∧ (-10000000000000 ≤ spX (spK a b m n) (spL a b x y m n) y n ∧ spX (spK a b m n) (spL a b x y m n) y n ≤ 10000000000000) ∧ (-10000000000000 ≤ spZ (spK a b m n) z ∧ spZ (spK a b m n) z ≤ 10000000000000) := by
  simp [coef] at ha hb
  simp [thou] at hx hy hz hm hn
  have p1 := mul_bd (a := a) (b := m) (A := 400) (B := 1000) (by omega) (by omega) (by omega) (by omega)
  have p2 := mul_bd (a := a * m) (b := m) (A := 400000) (B := 1000) (by omega) (by omega) (by omega) (by omega)
  have p3 := mul_bd (a := b) (b := n) (A := 400) (B := 1000) (by omega) (by omega) (by omega) (by omega)
  have p4 := mul_bd (a := b * n) (b := n) (A := 400000) (B := 1000) (by omega) (by omega) (by omega) (by omega)
  have p5 := mul_bd (a := a) (b := x) (A := 400) (B := 1000) (by omega) (by omega) (by omega) (by omega)
  have p6 := mul_bd (a := a * x) (b := m) (A := 400000) (B := 1000) (by omega) (by omega) (by omega) (by omega)
  have p7 := mul_bd (a := b) (b := y) (A := 400) (B := 1000) (by omega) (by omega) (by omega) (by omega)
  have p8 := mul_bd (a := b * y) (b := n) (A := 400000) (B := 1000) (by omega) (by omega) (by omega) (by omega)
  have hk : -800000000 ≤ spK a b m n ∧ spK a b m n ≤ 800000000 := by unfold spK; simp (disch := omega) only [wrap_small]; omega
  have hl : -800000000 ≤ spL a b x y m n ∧ spL a b x y m n ≤ 800000000 := by unfold spL; simp (disch := omega) only [wrap_small]; omega
  generalize spK a b m n = k at *
  generalize spL a b x y m n = l at *
  have q1 := mul_bd (a := k) (b := x) (A := 800000000) (B := 1000) (by omega) (by omega) (by omega) (by omega)
  have q2 := mul_bd (a := k) (b := y) (A := 800000000) (B := 1000) (by omega) (by omega) (by omega) (by omega)
  have q3 := mul_bd (a := k) (b := z) (A := 800000000) (B := 1000) (by omega) (by omega) (by omega) (by omega)
  have q4 := mul_bd (a := 2 * l) (b := m) (A := 1600000000) (B := 1000) (by omega) (by omega) (by omega) (by omega)
  have q5 := mul_bd (a := 2 * l) (b := n) (A := 1600000000) (B := 1000) (by omega) (by omega) (by omega) (by omega)
  unfold spX spZ
  simp (disch := omega) only [wrap_small]
  omega

def spI (a b c x y z m n : Int) : Bool := (coef a && coef b && coef c) && (thou x && thou y && thou z && thou m && thou n) && (decide (tsum a b c x y z = 0) && !(decide (x = 0) && decide (y = 0) && decide (z = 0)))
def spV (a b x y z m n : Int) : Int × Int × Int := (spX (spK a b m n) (spL a b x y m n) x m, spX (spK a b m n) (spL a b x y m n) y n, spZ (spK a b m n) z)
def gc3 (v : Int × Int × Int) : Int := (Int.gcd (Int.gcd v.1 v.2.1 : Int) v.2.2 : Nat)
def sg3 (v : Int × Int × Int) : Int := if v.2.2 < 0 ∨ (v.2.2 = 0 ∧ (v.2.1 < 0 ∨ (v.2.1 = 0 ∧ v.1 < 0))) then wrap64 (-gc3 v) else gc3 v
def dv3 (v : Int × Int × Int) : Int × Int × Int := (wrap64 (v.1.tdiv (sg3 v)), wrap64 (v.2.1.tdiv (sg3 v)), wrap64 (v.2.2.tdiv (sg3 v)))
def spB (a b c x y z m n : Int) : Bool := spI a b c x y z m n && !decide (gc3 (spV a b x y z m n) = 0) && num (dv3 (spV a b x y z m n)).1 && num (dv3 (spV a b x y z m n)).2.1 && num (dv3 (spV a b x y z m n)).2.2
def spR (a b c x y z m n : Int) : Int × Int × Int := if spB a b c x y z m n then dv3 (spV a b x y z m n) else (0, 0, 0)

theorem spec_cnIs (a b c x y z : Int) : AFun Try.prog 80 [] [Tri a b c, Tri x y z] (Bo (decide (tsum a b c x y z = 0) && !(decide (x = 0) && decide (y = 0) && decide (z = 0)))) [] [] := by
  refine afun_intro fn80 (by simp) rfl (by repeat' (first | exact trivial | (simp; done) | refine ⟨?_, ?_⟩)) ?_
  unfold ac80
  repeat' (first | ((with_reducible refine (?_ : (_ : Bool) = _)); (with_reducible rfl)) | ((with_reducible refine (?_ : (_ : Nat × Nat) = _)); (with_reducible rfl)) | (with_reducible refine leafRI ?_) | (with_reducible refine leafRB ?_) | (with_reducible refine leafI ?_) | (with_reducible refine leafB ?_) | ((with_reducible refine (?_ : (_ : Int) = _)); (with_reducible rfl)) | ((with_reducible refine (?_ : (_ : List (List Value)) = _)); (with_reducible rfl)) | ((with_reducible refine (?_ : (_ : Int) ≠ 0)); (first | assumption | omega | (simp only [ints_len] at *; omega) | (simp; omega))) | ((with_reducible refine (?_ : (_ : Int) ≤ _)); (first | assumption | omega | (simp only [ints_len] at *; omega) | (simp; omega))) | ((with_reducible refine (?_ : (_ : Int) < _)); (first | assumption | omega | (simp only [ints_len] at *; omega) | (simp; omega))) | ((with_reducible refine (?_ : (_ : Nat) ≤ _)); (first | omega | (simp only [List.length_cons, List.length_nil]; omega) | (simp; omega))) | ((with_reducible refine (?_ : (_ : Nat) = _)); (first | (with_reducible rfl) | (simp; done) | (simp only [fr_len]) | (simp only [ints_len]) | omega | (simp [*]; done))) | (refine And.intro ?_ ?_) | (intro h; first | (exact Bool.noConfusion h) | ((simp only [decide_eq_true_eq, decide_eq_false_iff_not, beq_iff_eq, bne_iff_ne, ne_eq, beq_eq_false_iff_ne, bne_eq_false_iff_eq, Bool.not_eq_true', Bool.not_eq_false', Bool.not_eq_true, Bool.not_eq_false, Int.not_le, Int.not_lt, Bool.and_eq_true, Bool.or_eq_true, Bool.or_eq_false_iff, Bool.and_eq_false_iff] at h); (try (first | (exact Bool.noConfusion h) | (exact (h trivial).elim)))) | skip) | ((with_reducible refine (?_ : chk _ _ = true)); kernel_rfl) | exact trivial)
  all_goals (unfold tsum; grind)

theorem impl_isSolution (a b c x y z : Int) : AFun Try.prog 85 [] [Tri a b c, Tri x y z] (Bo (decide (tsum a b c x y z = 0) && !(decide (x = 0) && decide (y = 0) && decide (z = 0)))) [] [] := by
  refine afun_intro fn85 (by simp) rfl (by repeat' (first | exact trivial | (simp; done) | refine ⟨?_, ?_⟩)) ?_
  unfold ac85
  repeat' (first | ((with_reducible refine (?_ : (_ : Bool) = _)); (with_reducible rfl)) | ((with_reducible refine (?_ : (_ : Nat × Nat) = _)); (with_reducible rfl)) | (with_reducible refine leafRI ?_) | (with_reducible refine leafRB ?_) | (with_reducible refine leafI ?_) | (with_reducible refine leafB ?_) | ((with_reducible refine (?_ : (_ : Int) = _)); (with_reducible rfl)) | ((with_reducible refine (?_ : (_ : List (List Value)) = _)); (with_reducible rfl)) | ((with_reducible refine (?_ : (_ : Int) ≠ 0)); (first | assumption | omega | (simp only [ints_len] at *; omega) | (simp; omega))) | ((with_reducible refine (?_ : (_ : Int) ≤ _)); (first | assumption | omega | (simp only [ints_len] at *; omega) | (simp; omega))) | ((with_reducible refine (?_ : (_ : Int) < _)); (first | assumption | omega | (simp only [ints_len] at *; omega) | (simp; omega))) | ((with_reducible refine (?_ : (_ : Nat) ≤ _)); (first | omega | (simp only [List.length_cons, List.length_nil]; omega) | (simp; omega))) | ((with_reducible refine (?_ : (_ : Nat) = _)); (first | (with_reducible rfl) | (simp; done) | (simp only [fr_len]) | (simp only [ints_len]) | omega | (simp [*]; done))) | (refine And.intro ?_ ?_) | (intro h; first | (exact Bool.noConfusion h) | ((simp only [decide_eq_true_eq, decide_eq_false_iff_not, beq_iff_eq, bne_iff_ne, ne_eq, beq_eq_false_iff_ne, bne_eq_false_iff_eq, Bool.not_eq_true', Bool.not_eq_false', Bool.not_eq_true, Bool.not_eq_false, Int.not_le, Int.not_lt, Bool.and_eq_true, Bool.or_eq_true, Bool.or_eq_false_iff, Bool.and_eq_false_iff] at h); (try (first | (exact Bool.noConfusion h) | (exact (h trivial).elim)))) | skip) | ((with_reducible refine (?_ : chk _ _ = true)); kernel_rfl) | exact trivial)
  all_goals (unfold tsum; grind)

theorem gcd_le {x y : Int} (hx : x.natAbs ≤ 10000000000000) (hy : y.natAbs ≤ 10000000000000) : Int.gcd x y ≤ 10000000000000 := by
  by_cases h : x = 0
  · subst h; rw [Int.zero_gcd]; exact hy
  · exact Nat.le_trans (Nat.le_of_dvd (by omega) (Int.gcd_dvd_natAbs_left x y)) hx

theorem gc3_bd {X Y Z : Int} (hx : X.natAbs ≤ 10000000000000) (hy : Y.natAbs ≤ 10000000000000) (hz : Z.natAbs ≤ 10000000000000) : 0 ≤ gc3 (X, Y, Z) ∧ gc3 (X, Y, Z) ≤ 10000000000000 := by
  have h1 := gcd_le hx hy
  have h2 := gcd_le (x := ((Int.gcd X Y : Nat) : Int)) (y := Z) (by omega) hz
  unfold gc3; dsimp only; omega

theorem spec_cnGcd (x y z : Int) (hx : x.natAbs ≤ 10000000000000) (hy : y.natAbs ≤ 10000000000000) (hz : z.natAbs ≤ 10000000000000) : AFun Try.prog 81 [] [Tri x y z] (I (gc3 (x, y, z))) [] [] := by
  have hg := gcd_le hx hy
  refine afun_intro fn81 (by simp) rfl (by repeat' (first | exact trivial | (simp; done) | refine ⟨?_, ?_⟩)) ?_
  unfold ac81
  repeat' (first | ((with_reducible refine (?_ : (_ : Bool) = _)); (with_reducible rfl)) | ((with_reducible refine (?_ : (_ : Nat × Nat) = _)); (with_reducible rfl)) | (with_reducible refine leafRI ?_) | (with_reducible refine leafRB ?_) | (with_reducible refine leafI ?_) | (with_reducible refine leafB ?_) | ((with_reducible refine (?_ : (_ : Int) = _)); (with_reducible rfl)) | ((with_reducible refine (?_ : (_ : List (List Value)) = _)); (with_reducible rfl)) | ((with_reducible refine (?_ : (_ : Int) ≠ 0)); (first | assumption | omega | (simp only [ints_len] at *; omega) | (simp; omega))) | ((with_reducible refine (?_ : (_ : Int) ≤ _)); (first | assumption | omega | (simp only [ints_len] at *; omega) | (simp; omega))) | ((with_reducible refine (?_ : (_ : Int) < _)); (first | assumption | omega | (simp only [ints_len] at *; omega) | (simp; omega))) | ((with_reducible refine (?_ : (_ : Nat) ≤ _)); (first | omega | (simp only [List.length_cons, List.length_nil]; omega) | (simp; omega))) | ((with_reducible refine (?_ : (_ : Nat) = _)); (first | (with_reducible rfl) | (simp; done) | (simp only [fr_len]) | (simp only [ints_len]) | omega | (simp [*]; done))) | (refine And.intro ?_ ?_) | (intro h; first | (exact Bool.noConfusion h) | ((simp only [decide_eq_true_eq, decide_eq_false_iff_not, beq_iff_eq, bne_iff_ne, ne_eq, beq_eq_false_iff_ne, bne_eq_false_iff_eq, Bool.not_eq_true', Bool.not_eq_false', Bool.not_eq_true, Bool.not_eq_false, Int.not_le, Int.not_lt, Bool.and_eq_true, Bool.or_eq_true, Bool.or_eq_false_iff, Bool.and_eq_false_iff] at h); (try (first | (exact Bool.noConfusion h) | (exact (h trivial).elim)))) | skip) | ((refine (?_ : ACall _ _ _ _ _ _ _)); first | ((apply acall (spec_nuGcd _ _ ?_ ?_ ?_ ?_)); (focus (repeat' (first | exact rfl | (refine And.intro ?_ ?_) | (simp only [ints_len]; done) | (simp; done) | omega))))) | ((with_reducible refine (?_ : chk _ _ = true)); kernel_rfl) | exact trivial)
  all_goals (first | rfl | omega)

/-- The machine's numbers, written out. -/
def rK (a b m n : Int) : Int := wrap64 (wrap64 (wrap64 (a * m) * m) + wrap64 (wrap64 (b * n) * n))
theorem spI_bd {a b c x y z m n : Int} (hI : spI a b c x y z m n = true) : (∀ X Y Z, spV a b x y z m n = (X, Y, Z) → X.natAbs ≤ 10000000000000 ∧ Y.natAbs ≤ 10000000000000 ∧ Z.natAbs ≤ 10000000000000) := by
  intro X Y Z h
  have hh : coef a = true ∧ coef b = true ∧ coef c = true ∧ thou x = true ∧ thou y = true ∧ thou z = true ∧ thou m = true ∧ thou n = true := by unfold spI at hI; grind
  have hbd := sp_bd hh.1 hh.2.1 hh.2.2.2.1 hh.2.2.2.2.1 hh.2.2.2.2.2.1 hh.2.2.2.2.2.2.1 hh.2.2.2.2.2.2.2
  unfold spV at h
  simp only [Prod.mk.injEq] at h
  obtain ⟨rfl, rfl, rfl⟩ := h
  omega
theorem spR_no {a b c x y z m n : Int} (h : spB a b c x y z m n = false) : spR a b c x y z m n = (0, 0, 0) := by rw [spR, h]; rfl

def sgG (g X Y Z : Int) : Int := if Z < 0 ∨ (Z = 0 ∧ (Y < 0 ∨ (Y = 0 ∧ X < 0))) then wrap64 (-g) else g
def dvG (g X Y Z : Int) : Int × Int × Int := (wrap64 (X.tdiv (sgG g X Y Z)), wrap64 (Y.tdiv (sgG g X Y Z)), wrap64 (Z.tdiv (sgG g X Y Z)))

theorem dv_pos {g X Y Z : Int} (h : Z < 0 ∨ (Z = 0 ∧ (Y < 0 ∨ (Y = 0 ∧ X < 0)))) : dvG g X Y Z = (wrap64 (X.tdiv (wrap64 (-g))), wrap64 (Y.tdiv (wrap64 (-g))), wrap64 (Z.tdiv (wrap64 (-g)))) := by unfold dvG sgG; rw [if_pos h]
theorem dv_neg {g X Y Z : Int} (h : ¬ (Z < 0 ∨ (Z = 0 ∧ (Y < 0 ∨ (Y = 0 ∧ X < 0))))) : dvG g X Y Z = (wrap64 (X.tdiv g), wrap64 (Y.tdiv g), wrap64 (Z.tdiv g)) := by unfold dvG sgG; rw [if_neg h]

theorem spec_SecondPoint (a b c x y z m n : Int) : AFun Try.prog 40 [] [Tri a b c, Tri x y z, I m, I n] (Pa [cI (spR a b c x y z m n).1, cI (spR a b c x y z m n).2.1, cI (spR a b c x y z m n).2.2] (spB a b c x y z m n)) [] [] := by
  have hl : ([x, y, z, m, n].all fun k => decide (-1000 ≤ k) && decide (k ≤ 1000)) = (thou x && thou y && thou z && thou m && thou n) := by simp [thou, Bool.and_assoc]
  have ha := spec_l1All [x, y, z, m, n] (-1000) 1000 (by simp)
  rw [hl] at ha
  by_cases hI : spI a b c x y z m n = true
  · have hb := spI_bd hI
    have hB : spB a b c x y z m n = (!decide (gc3 (spV a b x y z m n) = 0) && num (dv3 (spV a b x y z m n)).1 && num (dv3 (spV a b x y z m n)).2.1 && num (dv3 (spV a b x y z m n)).2.2) := by unfold spB; rw [hI, Bool.true_and]
    have hR : spR a b c x y z m n = if spB a b c x y z m n then dv3 (spV a b x y z m n) else (0, 0, 0) := rfl
    rw [hR, hB]
    have hV : spV a b x y z m n = (spX (spK a b m n) (spL a b x y m n) x m, spX (spK a b m n) (spL a b x y m n) y n, spZ (spK a b m n) z) := rfl
    obtain ⟨X, hX⟩ : ∃ X, X = spX (spK a b m n) (spL a b x y m n) x m := ⟨_, rfl⟩
    obtain ⟨Y, hY⟩ : ∃ Y, Y = spX (spK a b m n) (spL a b x y m n) y n := ⟨_, rfl⟩
    obtain ⟨Z, hZ⟩ : ∃ Z, Z = spZ (spK a b m n) z := ⟨_, rfl⟩
    rw [← hX, ← hY, ← hZ] at hV
    have hb := hb X Y Z hV
    rw [hV]
    clear hV hR hB
    unfold spI at hI
    have hg := spec_cnGcd X Y Z hb.1 hb.2.1 hb.2.2
    have hgb : 0 ≤ gc3 (X, Y, Z) ∧ gc3 (X, Y, Z) ≤ 10000000000000 := gc3_bd hb.1 hb.2.1 hb.2.2
    have hdv : dv3 (X, Y, Z) = dvG (gc3 (X, Y, Z)) X Y Z := rfl
    rw [hdv]
    clear hdv
    generalize gc3 (X, Y, Z) = g at *
    have wg : wrap64 (-g) = -g := wrap_small (by omega) (by omega)
    simp only [spX, spZ, spK, spL] at hX hY hZ
    refine afun_intro fn40 (by simp) rfl (by repeat' (first | exact trivial | (simp; done) | refine ⟨?_, ?_⟩)) ?_
    unfold ac40
    repeat' (first | ((with_reducible refine (?_ : (_ : Bool) = _)); (with_reducible rfl)) | ((with_reducible refine (?_ : (_ : Nat × Nat) = _)); (with_reducible rfl)) | (with_reducible refine leafRI ?_) | (with_reducible refine leafRB ?_) | (with_reducible refine leafI ?_) | (with_reducible refine leafB ?_) | ((with_reducible refine (?_ : (_ : Int) = _)); (with_reducible rfl)) | ((with_reducible refine (?_ : (_ : List (List Value)) = _)); (with_reducible rfl)) | ((with_reducible refine (?_ : (_ : Int) ≠ 0)); (first | assumption | omega | (simp only [ints_len] at *; omega) | (simp; omega))) | ((with_reducible refine (?_ : (_ : Int) ≤ _)); (first | assumption | omega | (simp only [ints_len] at *; omega) | (simp; omega))) | ((with_reducible refine (?_ : (_ : Int) < _)); (first | assumption | omega | (simp only [ints_len] at *; omega) | (simp; omega))) | ((with_reducible refine (?_ : (_ : Nat) ≤ _)); (first | omega | (simp only [List.length_cons, List.length_nil]; omega) | (simp; omega))) | ((with_reducible refine (?_ : (_ : Nat) = _)); (first | (with_reducible rfl) | (simp; done) | (simp only [fr_len]) | (simp only [ints_len]) | omega | (simp [*]; done))) | (refine And.intro ?_ ?_) | (intro h; first | (exact Bool.noConfusion h) | ((simp only [decide_eq_true_eq, decide_eq_false_iff_not, beq_iff_eq, bne_iff_ne, ne_eq, beq_eq_false_iff_ne, bne_eq_false_iff_eq, Bool.not_eq_true', Bool.not_eq_false', Bool.not_eq_true, Bool.not_eq_false, Int.not_le, Int.not_lt, Bool.and_eq_true, Bool.or_eq_true, Bool.or_eq_false_iff, Bool.and_eq_false_iff] at h); (try (first | (exact Bool.noConfusion h) | (exact (h trivial).elim)))) | skip) | ((refine (?_ : ACall _ _ _ _ _ _ _)); first | ((apply acall (spec_cnGood _ _ _)); (focus (repeat' (first | exact rfl | (refine And.intro ?_ ?_) | (simp only [ints_len]; done) | (simp; done) | omega)))) | ((apply acall (ha)); (focus (repeat' (first | exact rfl | (refine And.intro ?_ ?_) | (simp only [ints_len]; done) | (simp; done) | omega)))) | ((apply acall (spec_cnIs _ _ _ _ _ _)); (focus (repeat' (first | exact rfl | (refine And.intro ?_ ?_) | (simp only [ints_len]; done) | (simp; done) | omega))))) | ((with_reducible refine (?_ : chk _ _ = true)); kernel_rfl) | exact trivial)
    all_goals (first | (exfalso; grind) | skip)
    refine (?_ : ACall _ _ _ _ _ _ _)
    rw [← hX, ← hY, ← hZ]
    clear hX hY hZ ha hl
    repeat' (first | ((with_reducible refine (?_ : (_ : Bool) = _)); (with_reducible rfl)) | ((with_reducible refine (?_ : (_ : Nat × Nat) = _)); (with_reducible rfl)) | (with_reducible refine leafRI ?_) | (with_reducible refine leafRB ?_) | (with_reducible refine leafI ?_) | (with_reducible refine leafB ?_) | ((with_reducible refine (?_ : (_ : Int) = _)); (with_reducible rfl)) | ((with_reducible refine (?_ : (_ : List (List Value)) = _)); (with_reducible rfl)) | ((with_reducible refine (?_ : (_ : Int) ≠ 0)); (first | assumption | omega | (simp only [ints_len] at *; omega) | (simp; omega))) | ((with_reducible refine (?_ : (_ : Int) ≤ _)); (first | assumption | omega | (simp only [ints_len] at *; omega) | (simp; omega))) | ((with_reducible refine (?_ : (_ : Int) < _)); (first | assumption | omega | (simp only [ints_len] at *; omega) | (simp; omega))) | ((with_reducible refine (?_ : (_ : Nat) ≤ _)); (first | omega | (simp only [List.length_cons, List.length_nil]; omega) | (simp; omega))) | ((with_reducible refine (?_ : (_ : Nat) = _)); (first | (with_reducible rfl) | (simp; done) | (simp only [fr_len]) | (simp only [ints_len]) | omega | (simp [*]; done))) | (refine And.intro ?_ ?_) | (intro h; first | (exact Bool.noConfusion h) | ((simp only [decide_eq_true_eq, decide_eq_false_iff_not, beq_iff_eq, bne_iff_ne, ne_eq, beq_eq_false_iff_ne, bne_eq_false_iff_eq, Bool.not_eq_true', Bool.not_eq_false', Bool.not_eq_true, Bool.not_eq_false, Int.not_le, Int.not_lt, Bool.and_eq_true, Bool.or_eq_true, Bool.or_eq_false_iff, Bool.and_eq_false_iff] at h); (try (first | (exact Bool.noConfusion h) | (exact (h trivial).elim)))) | skip) | ((refine (?_ : ACall _ _ _ _ _ _ _)); first | ((apply acall (hg)); (focus (repeat' (first | exact rfl | (refine And.intro ?_ ?_) | (simp only [ints_len]; done) | (simp; done) | omega)))) | ((apply acall (spec_nuGood _)); (focus (repeat' (first | exact rfl | (refine And.intro ?_ ?_) | (simp only [ints_len]; done) | (simp; done) | omega))))) | ((with_reducible refine (?_ : chk _ _ = true)); kernel_rfl) | exact trivial)
    all_goals (by_cases hc : Z < 0 ∨ (Z = 0 ∧ (Y < 0 ∨ (Y = 0 ∧ X < 0))))
    any_goals (rw [dv_pos hc]; clear wg; first | (simp [*]; done) | (exfalso; omega) | grind)
    any_goals (rw [dv_neg hc]; clear wg; first | (simp [*]; done) | (exfalso; omega) | grind)
  · have hB : spB a b c x y z m n = false := by simp [spB, hI]
    have hR := spR_no hB
    rw [hR, hB]
    refine afun_intro fn40 (by simp) rfl (by repeat' (first | exact trivial | (simp; done) | refine ⟨?_, ?_⟩)) ?_
    unfold ac40
    repeat' (first | ((with_reducible refine (?_ : (_ : Bool) = _)); (with_reducible rfl)) | ((with_reducible refine (?_ : (_ : Nat × Nat) = _)); (with_reducible rfl)) | (with_reducible refine leafRI ?_) | (with_reducible refine leafRB ?_) | (with_reducible refine leafI ?_) | (with_reducible refine leafB ?_) | ((with_reducible refine (?_ : (_ : Int) = _)); (with_reducible rfl)) | ((with_reducible refine (?_ : (_ : List (List Value)) = _)); (with_reducible rfl)) | ((with_reducible refine (?_ : (_ : Int) ≠ 0)); (first | assumption | omega | (simp only [ints_len] at *; omega) | (simp; omega))) | ((with_reducible refine (?_ : (_ : Int) ≤ _)); (first | assumption | omega | (simp only [ints_len] at *; omega) | (simp; omega))) | ((with_reducible refine (?_ : (_ : Int) < _)); (first | assumption | omega | (simp only [ints_len] at *; omega) | (simp; omega))) | ((with_reducible refine (?_ : (_ : Nat) ≤ _)); (first | omega | (simp only [List.length_cons, List.length_nil]; omega) | (simp; omega))) | ((with_reducible refine (?_ : (_ : Nat) = _)); (first | (with_reducible rfl) | (simp; done) | (simp only [fr_len]) | (simp only [ints_len]) | omega | (simp [*]; done))) | (refine And.intro ?_ ?_) | (intro h; first | (exact Bool.noConfusion h) | ((simp only [decide_eq_true_eq, decide_eq_false_iff_not, beq_iff_eq, bne_iff_ne, ne_eq, beq_eq_false_iff_ne, bne_eq_false_iff_eq, Bool.not_eq_true', Bool.not_eq_false', Bool.not_eq_true, Bool.not_eq_false, Int.not_le, Int.not_lt, Bool.and_eq_true, Bool.or_eq_true, Bool.or_eq_false_iff, Bool.and_eq_false_iff] at h); (try (first | (exact Bool.noConfusion h) | (exact (h trivial).elim)))) | skip) | ((refine (?_ : ACall _ _ _ _ _ _ _)); first | ((apply acall (spec_cnGood _ _ _)); (focus (repeat' (first | exact rfl | (refine And.intro ?_ ?_) | (simp only [ints_len]; done) | (simp; done) | omega)))) | ((apply acall (ha)); (focus (repeat' (first | exact rfl | (refine And.intro ?_ ?_) | (simp only [ints_len]; done) | (simp; done) | omega)))) | ((apply acall (spec_cnIs _ _ _ _ _ _)); (focus (repeat' (first | exact rfl | (refine And.intro ?_ ?_) | (simp only [ints_len]; done) | (simp; done) | omega))))) | ((with_reducible refine (?_ : chk _ _ = true)); kernel_rfl) | exact trivial)
    all_goals (first | rfl | (exfalso; apply hI; unfold spI; grind))

end Go.Proofs.Ythdfladfokccdaa
