/- MatrixWord, NormalWord. -/
import Derived.Test.YthdfladfokccdaaG4
namespace Go.Proofs.Ythdfladfokccdaa
open Go.RowKit
set_option linter.unusedSimpArgs false
set_option linter.unusedVariables false
set_option maxRecDepth 100000
set_option maxHeartbeats 2000000

/-- The rest of p modulo r, of least size. -/
def rsm (p r : Int) : Int := if (r.natAbs : Int) < wrap64 (2 * (p % r.natAbs)) then wrap64 (p % r.natAbs - r.natAbs) else p % r.natAbs
def mwQ (p r : Int) : Int := wrap64 ((wrap64 (p - rsm p r)).tdiv r)
def mwNext (m : T4) : T4 := (m.2.2.1, m.2.2.2, wrap64 (wrap64 (mwQ m.1 m.2.2.1 * m.2.2.1) - m.1), wrap64 (wrap64 (mwQ m.1 m.2.2.1 * m.2.2.2) - m.2.1))
def mw : Nat → T4 → List Int × T4
  | 0, m => ([], m)
  | f + 1, m => if m.2.2.1 = 0 then ([], m) else (mwQ m.1 m.2.2.1 :: (mw f (mwNext m)).1, (mw f (mwNext m)).2)
theorem rsm_bd {p r : Int} (hp : -1000000 ≤ p ∧ p ≤ 1000000) (hr : -1000000 ≤ r ∧ r ≤ 1000000) (h0 : r ≠ 0) : 2 * (rsm p r).natAbs ≤ r.natAbs ∧ r ∣ p - rsm p r := by
  have e1 := Int.emod_nonneg p (show (r.natAbs : Int) ≠ 0 by omega)
  have e2 := Int.emod_lt_of_pos p (show 0 < (r.natAbs : Int) by omega)
  have d1 : r ∣ p - p % r.natAbs := by
    have : (r.natAbs : Int) ∣ p - p % r.natAbs := Int.dvd_self_sub_emod
    exact Int.natAbs_dvd.1 this
  unfold rsm
  rw [wrap_small (n := 2 * (p % r.natAbs)) (by omega) (by omega)]
  split
  · rw [wrap_small (by omega) (by omega)]
    refine ⟨by omega, ?_⟩
    have : p - (p % r.natAbs - r.natAbs) = (p - p % r.natAbs) + r.natAbs := by omega
    rw [this]
    exact Int.dvd_add d1 (Int.dvd_natAbs.2 (Int.dvd_refl r))
  · exact ⟨by omega, d1⟩
theorem mwQ_eq {p r : Int} (hp : -1000000 ≤ p ∧ p ≤ 1000000) (hr : -1000000 ≤ r ∧ r ≤ 1000000) (h0 : r ≠ 0) : mwQ p r * r = p - rsm p r ∧ wrap64 (wrap64 (mwQ p r * r) - p) = -rsm p r := by
  obtain ⟨b1, k, hk⟩ := rsm_bd hp hr h0
  have hb : -2000000 ≤ p - rsm p r ∧ p - rsm p r ≤ 2000000 := by omega
  have hq : mwQ p r = k := by
    unfold mwQ
    rw [wrap_small (n := p - rsm p r) (by omega) (by omega), hk, Int.mul_tdiv_cancel_left _ h0]
    have e := congrArg Int.natAbs hk
    rw [Int.natAbs_mul] at e
    have : 1 * k.natAbs ≤ r.natAbs * k.natAbs := Nat.mul_le_mul_right _ (by omega)
    exact wrap_small (by omega) (by omega)
  have e1 : mwQ p r * r = p - rsm p r := by rw [hq, hk, Int.mul_comm]
  refine ⟨e1, ?_⟩
  rw [e1, wrap_small (n := p - rsm p r) (by omega) (by omega), wrap_small (by omega) (by omega)]
  omega
theorem mwNext_bd {m : T4} (hp : -1000000 ≤ m.1 ∧ m.1 ≤ 1000000) (hr : -1000000 ≤ m.2.2.1 ∧ m.2.2.1 ≤ 1000000) (h0 : m.2.2.1 ≠ 0) : (-1000000 ≤ (mwNext m).1 ∧ (mwNext m).1 ≤ 1000000) ∧ (-1000000 ≤ (mwNext m).2.2.1 ∧ (mwNext m).2.2.1 ≤ 1000000) ∧ (mwNext m).2.2.1.natAbs < m.2.2.1.natAbs := by
  have h1 := (rsm_bd hp hr h0).1
  have h2 := (mwQ_eq hp hr h0).2
  have e : (mwNext m).2.2.1 = -rsm m.1 m.2.2.1 := h2
  refine ⟨hr, ?_, ?_⟩ <;> rw [e] <;> omega
theorem mw_fuel : ∀ (f g : Nat) (m : T4), (-1000000 ≤ m.1 ∧ m.1 ≤ 1000000) → (-1000000 ≤ m.2.2.1 ∧ m.2.2.1 ≤ 1000000) → m.2.2.1.natAbs < f → m.2.2.1.natAbs < g → mw f m = mw g m
  | 0, g, m, _, _, h1, h2 => by omega
  | f + 1, 0, m, _, _, h1, h2 => by omega
  | f + 1, g + 1, m, hp, hr, h1, h2 => by
    simp only [mw]
    split
    · rfl
    · rename_i h0
      obtain ⟨b1, b2, b3⟩ := mwNext_bd hp hr h0
      rw [mw_fuel f g _ b1 b2 (by omega) (by omega)]
theorem mw_len : ∀ (f : Nat) (m : T4), (mw f m).1.length ≤ f
  | 0, m => Nat.le_refl _
  | f + 1, m => by
    simp only [mw]
    split
    · simp
    · have := mw_len f (mwNext m); simp; omega
/-- A matrix's word. -/
def mwF (m : T4) : List Int × T4 := mw (m.2.2.1.natAbs + 1) m
def mwG (m : T4) : Int := (mwF m).2.1
def mwL (m : T4) : List Int := (mwF m).1 ++ [wrap64 ((mwF m).2.1 * (mwF m).2.2.1)]
theorem mwF_step {m : T4} (hp : -1000000 ≤ m.1 ∧ m.1 ≤ 1000000) (hr : -1000000 ≤ m.2.2.1 ∧ m.2.2.1 ≤ 1000000) (h0 : m.2.2.1 ≠ 0) : mwF m = (mwQ m.1 m.2.2.1 :: (mwF (mwNext m)).1, (mwF (mwNext m)).2) := by
  obtain ⟨b1, b2, b3⟩ := mwNext_bd hp hr h0
  rw [mwF, mw, if_neg h0, mwF, mw_fuel m.2.2.1.natAbs ((mwNext m).2.2.1.natAbs + 1) _ b1 b2 b3 (by omega)]
theorem mwF_stop {m : T4} (h0 : m.2.2.1 = 0) : mwF m = ([], m) := by rw [mwF, mw, if_pos h0]

theorem spec_moWord (p q r s' : Int) (hp : -1000000 ≤ p ∧ p ≤ 1000000) (hr : -1000000 ≤ r ∧ r ≤ 1000000) : AFun Try.prog 76 [] [Ma p q r s'] (WoS (mwG (p, q, r, s')) (mwL (p, q, r, s')).length) [] [FI (mwL (p, q, r, s'))] := by
  refine afun_intro fn76 (by simp) rfl (by repeat' (first | exact trivial | (simp; done) | refine ⟨?_, ?_⟩)) ?_
  unfold ac76
  refine loop_rule (σ := Nat × List (List Value) × T4) (fun s => []) (fun s => [((1, 0), .bx [cI s.2.2.1, cI s.2.2.2.1, cI s.2.2.2.2.1, cI s.2.2.2.2.2]), ((2, 2), .fl 3 1 []), ((2, 0), .bx [cI 0, .slc (2, 2) 0]), ((3, 2), .fl 3 1 s.2.1), ((3, 0), .bx [cI 0, .slc (3, 2) s.1])]) (fun s => s.1 = s.2.1.length ∧ (-1000000 ≤ s.2.2.1 ∧ s.2.2.1 ≤ 1000000) ∧ (-1000000 ≤ s.2.2.2.2.1 ∧ s.2.2.2.2.1 ≤ 1000000) ∧ s.1 + s.2.2.2.2.1.natAbs ≤ 1000000 ∧ s.2.1 ++ ints (mwF s.2.2).1 = ints (mwF (p, q, r, s')).1 ∧ (mwF s.2.2).2 = (mwF (p, q, r, s')).2) (fun s => s.2.2.2.2.1.natAbs) ((0, [], (p, q, r, s'))) ?_ (by repeat' (first | exact trivial | exact rfl | (refine And.intro ?_ ?_))) (by repeat' (first | exact trivial | exact rfl | (refine And.intro ?_ ?_))) (fun s => ⟨rfl, rfl⟩) (fun s i h => by first | exact absurd h (Nat.not_lt_zero i) | (cases i with | zero => rfl | succ i => exact absurd (Nat.lt_of_succ_lt_succ h) (Nat.not_lt_zero i))) ?_
  · exact ⟨rfl, hp, hr, by dsimp only; omega, rfl, rfl⟩
  · rintro ⟨n, R, ⟨a, b, c, d⟩⟩ ⟨g0, g1, g2, g3, g4, g5⟩
    dsimp only at g0 g1 g2 g3 g4 g5 ⊢
    have fin : c = 0 → a = mwG (p, q, r, s') ∧ ints (mwL (p, q, r, s')) = R ++ [[.int .i64 (wrap64 (a * b))]] := fun h => by
      rw [mwF_stop (m := (a, b, c, d)) h] at g4 g5
      dsimp only at g4 g5
      refine ⟨by rw [mwG, ← g5], ?_⟩
      rw [mwL, ints_app, ← g4, ← g5]; simp [ints]
    repeat' (first | ((with_reducible refine (?_ : (_ : Bool) = _)); (with_reducible rfl)) | ((with_reducible refine (?_ : (_ : Nat × Nat) = _)); (with_reducible rfl)) | (with_reducible refine leafRI ?_) | (with_reducible refine leafRB ?_) | (with_reducible refine leafI ?_) | (with_reducible refine leafB ?_) | ((with_reducible refine (?_ : (_ : Int) = _)); (with_reducible rfl)) | ((with_reducible refine (?_ : (_ : List (List Value)) = _)); (with_reducible rfl)) | ((with_reducible refine (?_ : (_ : Int) ≠ 0)); (first | assumption | omega | (simp only [ints_len] at *; omega) | (simp; omega))) | ((with_reducible refine (?_ : (_ : Int) ≤ _)); (first | assumption | omega | (simp only [ints_len] at *; omega) | (simp; omega))) | ((with_reducible refine (?_ : (_ : Int) < _)); (first | assumption | omega | (simp only [ints_len] at *; omega) | (simp; omega))) | ((with_reducible refine (?_ : (_ : Nat) ≤ _)); (first | omega | (simp only [List.length_cons, List.length_nil]; omega) | (simp; omega))) | ((with_reducible refine (?_ : (_ : Nat) = _)); (first | (with_reducible rfl) | (simp; done) | (simp only [fr_len]) | (simp only [ints_len]) | omega | (simp [*]; done))) | (refine And.intro ?_ ?_) | (intro h; first | (exact Bool.noConfusion h) | ((simp only [decide_eq_true_eq, decide_eq_false_iff_not, beq_iff_eq, bne_iff_ne, ne_eq, beq_eq_false_iff_ne, bne_eq_false_iff_eq, Bool.not_eq_true', Bool.not_eq_false', Bool.not_eq_true, Bool.not_eq_false, Int.not_le, Int.not_lt, Bool.and_eq_true, Bool.or_eq_true, Bool.or_eq_false_iff, Bool.and_eq_false_iff] at h); (try (first | (exact Bool.noConfusion h) | (exact (h trivial).elim)))) | skip) | ((refine (?_ : ACall _ _ _ _ _ _ _)); first | ((apply acall (spec_l1Abs _ ?_ ?_)); (focus (repeat' (first | exact rfl | (refine And.intro ?_ ?_) | (simp only [ints_len]; done) | (simp; done) | omega)))) | ((apply acall (spec_nuMod _ _ ?_ ?_)); (focus (repeat' (first | exact rfl | (refine And.intro ?_ ?_) | (simp only [ints_len]; done) | (simp; done) | omega))))) | ((with_reducible refine (?_ : chk _ _ = true)); kernel_rfl) | exact trivial)
    · rename_i h0
      have hr : rsm a c = wrap64 (a % (c.natAbs : Int) - (c.natAbs : Int)) := by unfold rsm; rw [if_pos h]
      have hx : mwNext (a, b, c, d) = (c, d, wrap64 (wrap64 (wrap64 ((wrap64 (a - wrap64 (a % (c.natAbs : Int) - (c.natAbs : Int)))).tdiv c) * c) - a), wrap64 (wrap64 (wrap64 ((wrap64 (a - wrap64 (a % (c.natAbs : Int) - (c.natAbs : Int)))).tdiv c) * d) - b)) := by simp only [mwNext, mwQ, hr]
      have hq : mwQ a c = wrap64 ((wrap64 (a - wrap64 (a % (c.natAbs : Int) - (c.natAbs : Int)))).tdiv c) := by simp only [mwQ, hr]
      obtain ⟨b1, b2, b3⟩ := mwNext_bd (m := (a, b, c, d)) g1 g2 h0
      have hs := mwF_step (m := (a, b, c, d)) g1 g2 h0
      rw [hx] at b1 b2 b3 hs
      rw [hs] at g4 g5
      dsimp only at g4 g5 b1 b2 b3
      refine ⟨(_, _, (_, _, _, _)), ?_, ?_, none, And.intro rfl (And.intro (by repeat' (first | exact trivial | exact rfl | (refine And.intro ?_ ?_))) (by repeat' (first | exact trivial | exact rfl | (refine And.intro ?_ ?_))))⟩
      · dsimp only
        refine ⟨by simp, b1, b2, by simp only [List.length_cons, List.length_nil]; omega, ?_, g5⟩
        rw [← g4, hq, List.append_assoc]; rfl
      · dsimp only; exact b3
    · rename_i h0
      have hr : rsm a c = a % (c.natAbs : Int) := by unfold rsm; rw [if_neg (by omega)]
      have hx : mwNext (a, b, c, d) = (c, d, wrap64 (wrap64 (wrap64 ((wrap64 (a - a % (c.natAbs : Int))).tdiv c) * c) - a), wrap64 (wrap64 (wrap64 ((wrap64 (a - a % (c.natAbs : Int))).tdiv c) * d) - b)) := by simp only [mwNext, mwQ, hr]
      have hq : mwQ a c = wrap64 ((wrap64 (a - a % (c.natAbs : Int))).tdiv c) := by simp only [mwQ, hr]
      obtain ⟨b1, b2, b3⟩ := mwNext_bd (m := (a, b, c, d)) g1 g2 h0
      have hs := mwF_step (m := (a, b, c, d)) g1 g2 h0
      rw [hx] at b1 b2 b3 hs
      rw [hs] at g4 g5
      dsimp only at g4 g5 b1 b2 b3
      refine ⟨(_, _, (_, _, _, _)), ?_, ?_, none, And.intro rfl (And.intro (by repeat' (first | exact trivial | exact rfl | (refine And.intro ?_ ?_))) (by repeat' (first | exact trivial | exact rfl | (refine And.intro ?_ ?_))))⟩
      · dsimp only
        refine ⟨by simp, b1, b2, by simp only [List.length_cons, List.length_nil]; omega, ?_, g5⟩
        rw [← g4, hq, List.append_assoc]; rfl
      · dsimp only; exact b3
    · exact (fin h).1
    · rw [← ints_len (mwL (p, q, r, s')), (fin h).2]; simp
    · exact (fin h).2.symm

theorem mwL_len {m : T4} (hr : -1000000 ≤ m.2.2.1 ∧ m.2.2.1 ≤ 1000000) : (mwL m).length ≤ 1000002 := by
  have := mw_len (m.2.2.1.natAbs + 1) m
  simp only [mwL, mwF, List.length_append, List.length_cons, List.length_nil]; omega
def mxB (m : T4) : Bool := wrd (mwG m) (mwL m)
def mxG (m : T4) : Int := if mxB m then mwG m else 0
def mxL (m : T4) : List Int := if mxB m then mwL m else []
theorem mwG_bd {m : T4} (hp : -1000000 ≤ m.1 ∧ m.1 ≤ 1000000) (hr : -1000000 ≤ m.2.2.1 ∧ m.2.2.1 ≤ 1000000) : -1000000 ≤ mwG m ∧ mwG m ≤ 1000000 := by
  have key : ∀ (f : Nat) (m : T4), (-1000000 ≤ m.1 ∧ m.1 ≤ 1000000) → (-1000000 ≤ m.2.2.1 ∧ m.2.2.1 ≤ 1000000) → -1000000 ≤ (mw f m).2.1 ∧ (mw f m).2.1 ≤ 1000000 := by
    intro f
    induction f with
    | zero => intro m h1 h2; exact h1
    | succ f ih =>
      intro m h1 h2
      simp only [mw]
      split
      · exact h1
      · rename_i h0
        obtain ⟨b1, b2, b3⟩ := mwNext_bd h1 h2 h0
        exact ih _ b1 b2
  exact key _ m hp hr

theorem impl_wordOf (p q r s' : Int) (hp : -1000000 ≤ p ∧ p ≤ 1000000) (hr : -1000000 ≤ r ∧ r ≤ 1000000) : AFun Try.prog 77 [] [Ma p q r s'] (PW (mxG (p, q, r, s')) (mxL (p, q, r, s')).length (mxB (p, q, r, s'))) [] [FI (mxL (p, q, r, s'))] := by
  have hG := mwG_bd (m := (p, q, r, s')) hp hr
  have hL := mwL_len (m := (p, q, r, s')) hr
  refine afun_intro fn77 (by simp) rfl (by repeat' (first | exact trivial | (simp; done) | refine ⟨?_, ?_⟩)) ?_
  unfold ac77
  refine loop_rule (σ := Nat × List (List Value) × T4) (fun s => []) (fun s => [((1, 0), .bx [cI s.2.2.1, cI s.2.2.2.1, cI s.2.2.2.2.1, cI s.2.2.2.2.2]), ((2, 2), .fl 3 1 []), ((2, 0), .bx [cI 0, .slc (2, 2) 0]), ((8, 2), .fl 3 1 s.2.1), ((4, 0), .bx [cI 1, .slc (8, 2) s.1])]) (fun s => s.1 = s.2.1.length ∧ (-1000000 ≤ s.2.2.1 ∧ s.2.2.1 ≤ 1000000) ∧ (-1000000 ≤ s.2.2.2.2.1 ∧ s.2.2.2.2.1 ≤ 1000000) ∧ s.1 + s.2.2.2.2.1.natAbs ≤ 1000000 ∧ s.2.1 ++ ints (mwF s.2.2).1 = ints (mwF (p, q, r, s')).1 ∧ (mwF s.2.2).2 = (mwF (p, q, r, s')).2) (fun s => s.2.2.2.2.1.natAbs) ((0, [], (p, q, r, s'))) ?_ (by repeat' (first | exact trivial | exact rfl | (refine And.intro ?_ ?_))) (by repeat' (first | exact trivial | exact rfl | (refine And.intro ?_ ?_))) (fun s => ⟨rfl, rfl⟩) (fun s i h => by first | exact absurd h (Nat.not_lt_zero i) | (cases i with | zero => rfl | succ i => exact absurd (Nat.lt_of_succ_lt_succ h) (Nat.not_lt_zero i))) ?_
  · exact ⟨rfl, hp, hr, by dsimp only; omega, rfl, rfl⟩
  · rintro ⟨n, R, ⟨a, b, c, d⟩⟩ ⟨g0, g1, g2, g3, g4, g5⟩
    dsimp only at g0 g1 g2 g3 g4 g5 ⊢
    have fin : c = 0 → a = mwG (p, q, r, s') ∧ R ++ [[.int .i64 (wrap64 (a * b))]] = ints (mwL (p, q, r, s')) := fun h => by
      rw [mwF_stop (m := (a, b, c, d)) h] at g4 g5
      dsimp only at g4 g5
      refine ⟨by rw [mwG, ← g5], ?_⟩
      rw [mwL, ints_app, ← g4, ← g5]; simp [ints]
    repeat' (first | ((with_reducible refine (?_ : (_ : Bool) = _)); (with_reducible rfl)) | ((with_reducible refine (?_ : (_ : Nat × Nat) = _)); (with_reducible rfl)) | (with_reducible refine leafRI ?_) | (with_reducible refine leafRB ?_) | (with_reducible refine leafI ?_) | (with_reducible refine leafB ?_) | ((with_reducible refine (?_ : (_ : Int) = _)); (with_reducible rfl)) | ((with_reducible refine (?_ : (_ : List (List Value)) = _)); (with_reducible rfl)) | ((with_reducible refine (?_ : (_ : Int) ≠ 0)); (first | assumption | omega | (simp only [ints_len] at *; omega) | (simp; omega))) | ((with_reducible refine (?_ : (_ : Int) ≤ _)); (first | assumption | omega | (simp only [ints_len] at *; omega) | (simp; omega))) | ((with_reducible refine (?_ : (_ : Int) < _)); (first | assumption | omega | (simp only [ints_len] at *; omega) | (simp; omega))) | ((with_reducible refine (?_ : (_ : Nat) ≤ _)); (first | omega | (simp only [List.length_cons, List.length_nil]; omega) | (simp; omega))) | ((with_reducible refine (?_ : (_ : Nat) = _)); (first | (with_reducible rfl) | (simp; done) | (simp only [fr_len]) | (simp only [ints_len]) | omega | (simp [*]; done))) | (refine And.intro ?_ ?_) | (intro h; first | (exact Bool.noConfusion h) | ((simp only [decide_eq_true_eq, decide_eq_false_iff_not, beq_iff_eq, bne_iff_ne, ne_eq, beq_eq_false_iff_ne, bne_eq_false_iff_eq, Bool.not_eq_true', Bool.not_eq_false', Bool.not_eq_true, Bool.not_eq_false, Int.not_le, Int.not_lt, Bool.and_eq_true, Bool.or_eq_true, Bool.or_eq_false_iff, Bool.and_eq_false_iff] at h); (try (first | (exact Bool.noConfusion h) | (exact (h trivial).elim)))) | skip) | ((refine (?_ : ACall _ _ _ _ _ _ _)); first | ((apply acall (impl_abs _ ?_ ?_)); (focus (repeat' (first | exact rfl | (refine And.intro ?_ ?_) | (simp only [ints_len]; done) | (simp; done) | omega)))) | ((apply acall (impl_mod _ _ ?_ ?_)); (focus (repeat' (first | exact rfl | (refine And.intro ?_ ?_) | (simp only [ints_len]; done) | (simp; done) | omega))))) | ((with_reducible refine (?_ : chk _ _ = true)); kernel_rfl) | exact trivial)
    · rename_i h0
      have hr : rsm a c = wrap64 (a % (c.natAbs : Int) - (c.natAbs : Int)) := by unfold rsm; rw [if_pos h]
      have hx : mwNext (a, b, c, d) = (c, d, wrap64 (wrap64 (wrap64 ((wrap64 (a - wrap64 (a % (c.natAbs : Int) - (c.natAbs : Int)))).tdiv c) * c) - a), wrap64 (wrap64 (wrap64 ((wrap64 (a - wrap64 (a % (c.natAbs : Int) - (c.natAbs : Int)))).tdiv c) * d) - b)) := by simp only [mwNext, mwQ, hr]
      have hq : mwQ a c = wrap64 ((wrap64 (a - wrap64 (a % (c.natAbs : Int) - (c.natAbs : Int)))).tdiv c) := by simp only [mwQ, hr]
      obtain ⟨b1, b2, b3⟩ := mwNext_bd (m := (a, b, c, d)) g1 g2 h0
      have hs := mwF_step (m := (a, b, c, d)) g1 g2 h0
      rw [hx] at b1 b2 b3 hs
      rw [hs] at g4 g5
      dsimp only at g4 g5 b1 b2 b3
      refine ⟨(_, _, (_, _, _, _)), ?_, ?_, none, And.intro rfl (And.intro (by repeat' (first | exact trivial | exact rfl | (refine And.intro ?_ ?_))) (by repeat' (first | exact trivial | exact rfl | (refine And.intro ?_ ?_))))⟩
      · dsimp only
        refine ⟨by simp, b1, b2, by simp only [List.length_cons, List.length_nil]; omega, ?_, g5⟩
        rw [← g4, hq, List.append_assoc]; rfl
      · dsimp only; exact b3
    · rename_i h0
      have hr : rsm a c = a % (c.natAbs : Int) := by unfold rsm; rw [if_neg (by omega)]
      have hx : mwNext (a, b, c, d) = (c, d, wrap64 (wrap64 (wrap64 ((wrap64 (a - a % (c.natAbs : Int))).tdiv c) * c) - a), wrap64 (wrap64 (wrap64 ((wrap64 (a - a % (c.natAbs : Int))).tdiv c) * d) - b)) := by simp only [mwNext, mwQ, hr]
      have hq : mwQ a c = wrap64 ((wrap64 (a - a % (c.natAbs : Int))).tdiv c) := by simp only [mwQ, hr]
      obtain ⟨b1, b2, b3⟩ := mwNext_bd (m := (a, b, c, d)) g1 g2 h0
      have hs := mwF_step (m := (a, b, c, d)) g1 g2 h0
      rw [hx] at b1 b2 b3 hs
      rw [hs] at g4 g5
      dsimp only at g4 g5 b1 b2 b3
      refine ⟨(_, _, (_, _, _, _)), ?_, ?_, none, And.intro rfl (And.intro (by repeat' (first | exact trivial | exact rfl | (refine And.intro ?_ ?_))) (by repeat' (first | exact trivial | exact rfl | (refine And.intro ?_ ?_))))⟩
      · dsimp only
        refine ⟨by simp, b1, b2, by simp only [List.length_cons, List.length_nil]; omega, ?_, g5⟩
        rw [← g4, hq, List.append_assoc]; rfl
      · dsimp only; exact b3
    · obtain ⟨f1, f2⟩ := fin h
      have f3 : R.length + [[Value.int .i64 (wrap64 (a * b))]].length = (mwL (p, q, r, s')).length := by rw [← ints_len (mwL (p, q, r, s')), ← f2]; simp
      rw [f2, f3, f1]
      repeat' (first | ((with_reducible refine (?_ : (_ : Bool) = _)); (with_reducible rfl)) | ((with_reducible refine (?_ : (_ : Nat × Nat) = _)); (with_reducible rfl)) | (with_reducible refine leafRI ?_) | (with_reducible refine leafRB ?_) | (with_reducible refine leafI ?_) | (with_reducible refine leafB ?_) | ((with_reducible refine (?_ : (_ : Int) = _)); (with_reducible rfl)) | ((with_reducible refine (?_ : (_ : List (List Value)) = _)); (with_reducible rfl)) | ((with_reducible refine (?_ : (_ : Int) ≠ 0)); (first | assumption | omega | (simp only [ints_len] at *; omega) | (simp; omega))) | ((with_reducible refine (?_ : (_ : Int) ≤ _)); (first | assumption | omega | (simp only [ints_len] at *; omega) | (simp; omega))) | ((with_reducible refine (?_ : (_ : Int) < _)); (first | assumption | omega | (simp only [ints_len] at *; omega) | (simp; omega))) | ((with_reducible refine (?_ : (_ : Nat) ≤ _)); (first | omega | (simp only [List.length_cons, List.length_nil]; omega) | (simp; omega))) | ((with_reducible refine (?_ : (_ : Nat) = _)); (first | (with_reducible rfl) | (simp; done) | (simp only [fr_len]) | (simp only [ints_len]) | omega | (simp [*]; done))) | (refine And.intro ?_ ?_) | (intro h; first | (exact Bool.noConfusion h) | ((simp only [decide_eq_true_eq, decide_eq_false_iff_not, beq_iff_eq, bne_iff_ne, ne_eq, beq_eq_false_iff_ne, bne_eq_false_iff_eq, Bool.not_eq_true', Bool.not_eq_false', Bool.not_eq_true, Bool.not_eq_false, Int.not_le, Int.not_lt, Bool.and_eq_true, Bool.or_eq_true, Bool.or_eq_false_iff, Bool.and_eq_false_iff] at h); (try (first | (exact Bool.noConfusion h) | (exact (h trivial).elim)))) | skip) | ((refine (?_ : ACall _ _ _ _ _ _ _)); first | ((apply acall (impl_isWord _ _ ?_ ?_ ?_)); (focus (repeat' (first | exact rfl | (refine And.intro ?_ ?_) | (simp only [ints_len]; done) | (simp; done) | omega))))) | ((with_reducible refine (?_ : chk _ _ = true)); kernel_rfl) | exact trivial)
      all_goals (first | omega | (have hB := h; simp [mxG, mxL, mxB, hB, ints]))

theorem prp_bd {p q r s : Int} (h : prp (p, q, r, s) = true) : (-1000000 ≤ p ∧ p ≤ 1000000) ∧ (-1000000 ≤ r ∧ r ≤ 1000000) := by
  have := prp_iff.1 h
  exact ⟨this.1, this.2.2.1⟩
def mkB (m : T4) : Bool := prp m && mxB m
def mkG (m : T4) : Int := if mkB m then mwG m else 0
def mkL (m : T4) : List Int := if mkB m then mwL m else []
theorem mk_yes {m : T4} (h : prp m = true) : mkB m = mxB m ∧ mkG m = mxG m ∧ mkL m = mxL m := by simp [mkB, mkG, mkL, mxG, mxL, h]
theorem mk_no {m : T4} (h : prp m = false) : mkB m = false ∧ mkG m = 0 ∧ mkL m = [] := by simp [mkB, mkG, mkL, h]

theorem spec_MatrixWord (p q r s : Int) : AFun Try.prog 36 [] [Ma p q r s] (PW (mkG (p, q, r, s)) (mkL (p, q, r, s)).length (mkB (p, q, r, s))) [] [FI (mkL (p, q, r, s))] := by
  cases hP : prp (p, q, r, s) with
  | false =>
    obtain ⟨e1, e2, e3⟩ := mk_no hP
    rw [e1, e2, e3]
    refine afun_intro fn36 (by simp) rfl (by repeat' (first | exact trivial | (simp; done) | refine ⟨?_, ?_⟩)) ?_
    unfold ac36
    repeat' (first | ((with_reducible refine (?_ : (_ : Bool) = _)); (with_reducible rfl)) | ((with_reducible refine (?_ : (_ : Nat × Nat) = _)); (with_reducible rfl)) | (with_reducible refine leafRI ?_) | (with_reducible refine leafRB ?_) | (with_reducible refine leafI ?_) | (with_reducible refine leafB ?_) | ((with_reducible refine (?_ : (_ : Int) = _)); (with_reducible rfl)) | ((with_reducible refine (?_ : (_ : List (List Value)) = _)); (with_reducible rfl)) | ((with_reducible refine (?_ : (_ : Int) ≠ 0)); (first | assumption | omega | (simp only [ints_len] at *; omega) | (simp; omega))) | ((with_reducible refine (?_ : (_ : Int) ≤ _)); (first | assumption | omega | (simp only [ints_len] at *; omega) | (simp; omega))) | ((with_reducible refine (?_ : (_ : Int) < _)); (first | assumption | omega | (simp only [ints_len] at *; omega) | (simp; omega))) | ((with_reducible refine (?_ : (_ : Nat) ≤ _)); (first | omega | (simp only [List.length_cons, List.length_nil]; omega) | (simp; omega))) | ((with_reducible refine (?_ : (_ : Nat) = _)); (first | (with_reducible rfl) | (simp; done) | (simp only [fr_len]) | (simp only [ints_len]) | omega | (simp [*]; done))) | (refine And.intro ?_ ?_) | (intro h; first | (exact Bool.noConfusion h) | ((simp only [decide_eq_true_eq, decide_eq_false_iff_not, beq_iff_eq, bne_iff_ne, ne_eq, beq_eq_false_iff_ne, bne_eq_false_iff_eq, Bool.not_eq_true', Bool.not_eq_false', Bool.not_eq_true, Bool.not_eq_false, Int.not_le, Int.not_lt, Bool.and_eq_true, Bool.or_eq_true, Bool.or_eq_false_iff, Bool.and_eq_false_iff] at h); (try (first | (exact Bool.noConfusion h) | (exact (h trivial).elim)))) | skip) | ((refine (?_ : ACall _ _ _ _ _ _ _)); first | ((apply acall (spec_moProper _ _ _ _)); (focus (repeat' (first | exact rfl | (refine And.intro ?_ ?_) | (simp only [ints_len]; done) | (simp; done) | omega))))) | ((with_reducible refine (?_ : chk _ _ = true)); kernel_rfl) | exact trivial)
    all_goals (first | (rw [hP] at h; cases h; done) | rfl)
  | true =>
    obtain ⟨e1, e2, e3⟩ := mk_yes hP
    obtain ⟨b1, b2⟩ := prp_bd hP
    have hG := mwG_bd (m := (p, q, r, s)) b1 b2
    have hL := mwL_len (m := (p, q, r, s)) b2
    rw [e1, e2, e3]
    cases hW : wrd (mwG (p, q, r, s)) (mwL (p, q, r, s)) with
    | true =>
      have hB : mxB (p, q, r, s) = true := hW
      have hc := spec_moIf_yes (mwG (p, q, r, s)) (mwL (p, q, r, s)) (by omega) (by omega) hW
      refine afun_intro fn36 (by simp) rfl (by repeat' (first | exact trivial | (simp; done) | refine ⟨?_, ?_⟩)) ?_
      unfold ac36
      repeat' (first | ((with_reducible refine (?_ : (_ : Bool) = _)); (with_reducible rfl)) | ((with_reducible refine (?_ : (_ : Nat × Nat) = _)); (with_reducible rfl)) | (with_reducible refine leafRI ?_) | (with_reducible refine leafRB ?_) | (with_reducible refine leafI ?_) | (with_reducible refine leafB ?_) | ((with_reducible refine (?_ : (_ : Int) = _)); (with_reducible rfl)) | ((with_reducible refine (?_ : (_ : List (List Value)) = _)); (with_reducible rfl)) | ((with_reducible refine (?_ : (_ : Int) ≠ 0)); (first | assumption | omega | (simp only [ints_len] at *; omega) | (simp; omega))) | ((with_reducible refine (?_ : (_ : Int) ≤ _)); (first | assumption | omega | (simp only [ints_len] at *; omega) | (simp; omega))) | ((with_reducible refine (?_ : (_ : Int) < _)); (first | assumption | omega | (simp only [ints_len] at *; omega) | (simp; omega))) | ((with_reducible refine (?_ : (_ : Nat) ≤ _)); (first | omega | (simp only [List.length_cons, List.length_nil]; omega) | (simp; omega))) | ((with_reducible refine (?_ : (_ : Nat) = _)); (first | (with_reducible rfl) | (simp; done) | (simp only [fr_len]) | (simp only [ints_len]) | omega | (simp [*]; done))) | (refine And.intro ?_ ?_) | (intro h; first | (exact Bool.noConfusion h) | ((simp only [decide_eq_true_eq, decide_eq_false_iff_not, beq_iff_eq, bne_iff_ne, ne_eq, beq_eq_false_iff_ne, bne_eq_false_iff_eq, Bool.not_eq_true', Bool.not_eq_false', Bool.not_eq_true, Bool.not_eq_false, Int.not_le, Int.not_lt, Bool.and_eq_true, Bool.or_eq_true, Bool.or_eq_false_iff, Bool.and_eq_false_iff] at h); (try (first | (exact Bool.noConfusion h) | (exact (h trivial).elim)))) | skip) | ((refine (?_ : ACall _ _ _ _ _ _ _)); first | ((apply acall (spec_moProper _ _ _ _)); (focus (repeat' (first | exact rfl | (refine And.intro ?_ ?_) | (simp only [ints_len]; done) | (simp; done) | omega)))) | ((apply acall (spec_moWord _ _ _ _ ?_ ?_)); (focus (repeat' (first | exact rfl | (refine And.intro ?_ ?_) | (simp only [ints_len]; done) | (simp; done) | omega)))) | ((apply alent (hc)); (focus (exact rfl)); (focus (repeat' (first | exact rfl | (refine And.intro ?_ ?_) | (simp only [ints_len]; done) | (simp; done) | omega))); (focus (exact rfl)))) | ((with_reducible refine (?_ : chk _ _ = true)); kernel_rfl) | exact trivial)
      all_goals (first | omega | (rw [hP] at h; cases h; done) | (simp [mxG, mxL, hB]; done))
    | false =>
      have hB : mxB (p, q, r, s) = false := hW
      have hc := spec_moIf_no (mwG (p, q, r, s)) (mwL (p, q, r, s)) (by omega) (by omega) (by omega) hW
      refine afun_intro fn36 (by simp) rfl (by repeat' (first | exact trivial | (simp; done) | refine ⟨?_, ?_⟩)) ?_
      unfold ac36
      repeat' (first | ((with_reducible refine (?_ : (_ : Bool) = _)); (with_reducible rfl)) | ((with_reducible refine (?_ : (_ : Nat × Nat) = _)); (with_reducible rfl)) | (with_reducible refine leafRI ?_) | (with_reducible refine leafRB ?_) | (with_reducible refine leafI ?_) | (with_reducible refine leafB ?_) | ((with_reducible refine (?_ : (_ : Int) = _)); (with_reducible rfl)) | ((with_reducible refine (?_ : (_ : List (List Value)) = _)); (with_reducible rfl)) | ((with_reducible refine (?_ : (_ : Int) ≠ 0)); (first | assumption | omega | (simp only [ints_len] at *; omega) | (simp; omega))) | ((with_reducible refine (?_ : (_ : Int) ≤ _)); (first | assumption | omega | (simp only [ints_len] at *; omega) | (simp; omega))) | ((with_reducible refine (?_ : (_ : Int) < _)); (first | assumption | omega | (simp only [ints_len] at *; omega) | (simp; omega))) | ((with_reducible refine (?_ : (_ : Nat) ≤ _)); (first | omega | (simp only [List.length_cons, List.length_nil]; omega) | (simp; omega))) | ((with_reducible refine (?_ : (_ : Nat) = _)); (first | (with_reducible rfl) | (simp; done) | (simp only [fr_len]) | (simp only [ints_len]) | omega | (simp [*]; done))) | (refine And.intro ?_ ?_) | (intro h; first | (exact Bool.noConfusion h) | ((simp only [decide_eq_true_eq, decide_eq_false_iff_not, beq_iff_eq, bne_iff_ne, ne_eq, beq_eq_false_iff_ne, bne_eq_false_iff_eq, Bool.not_eq_true', Bool.not_eq_false', Bool.not_eq_true, Bool.not_eq_false, Int.not_le, Int.not_lt, Bool.and_eq_true, Bool.or_eq_true, Bool.or_eq_false_iff, Bool.and_eq_false_iff] at h); (try (first | (exact Bool.noConfusion h) | (exact (h trivial).elim)))) | skip) | ((refine (?_ : ACall _ _ _ _ _ _ _)); first | ((apply acall (spec_moProper _ _ _ _)); (focus (repeat' (first | exact rfl | (refine And.intro ?_ ?_) | (simp only [ints_len]; done) | (simp; done) | omega)))) | ((apply acall (spec_moWord _ _ _ _ ?_ ?_)); (focus (repeat' (first | exact rfl | (refine And.intro ?_ ?_) | (simp only [ints_len]; done) | (simp; done) | omega)))) | ((apply acall (hc)); (focus (repeat' (first | exact rfl | (refine And.intro ?_ ?_) | (simp only [ints_len]; done) | (simp; done) | omega))))) | ((with_reducible refine (?_ : chk _ _ = true)); kernel_rfl) | exact trivial)
      all_goals (first | omega | (rw [hP] at h; cases h; done) | (simp [mxG, mxL, hB]; done) | (simp [mxL, hB, ints]; done))

theorem impl_MatrixWord (p q r s : Int) : AFun Try.prog 37 [] [Ma p q r s] (PW (mkG (p, q, r, s)) (mkL (p, q, r, s)).length (mkB (p, q, r, s))) [] [FI (mkL (p, q, r, s))] := by
  cases hP : prp (p, q, r, s) with
  | false =>
    obtain ⟨e1, e2, e3⟩ := mk_no hP
    rw [e1, e2, e3]
    refine afun_intro fn37 (by simp) rfl (by repeat' (first | exact trivial | (simp; done) | refine ⟨?_, ?_⟩)) ?_
    unfold ac37
    repeat' (first | ((with_reducible refine (?_ : (_ : Bool) = _)); (with_reducible rfl)) | ((with_reducible refine (?_ : (_ : Nat × Nat) = _)); (with_reducible rfl)) | (with_reducible refine leafRI ?_) | (with_reducible refine leafRB ?_) | (with_reducible refine leafI ?_) | (with_reducible refine leafB ?_) | ((with_reducible refine (?_ : (_ : Int) = _)); (with_reducible rfl)) | ((with_reducible refine (?_ : (_ : List (List Value)) = _)); (with_reducible rfl)) | ((with_reducible refine (?_ : (_ : Int) ≠ 0)); (first | assumption | omega | (simp only [ints_len] at *; omega) | (simp; omega))) | ((with_reducible refine (?_ : (_ : Int) ≤ _)); (first | assumption | omega | (simp only [ints_len] at *; omega) | (simp; omega))) | ((with_reducible refine (?_ : (_ : Int) < _)); (first | assumption | omega | (simp only [ints_len] at *; omega) | (simp; omega))) | ((with_reducible refine (?_ : (_ : Nat) ≤ _)); (first | omega | (simp only [List.length_cons, List.length_nil]; omega) | (simp; omega))) | ((with_reducible refine (?_ : (_ : Nat) = _)); (first | (with_reducible rfl) | (simp; done) | (simp only [fr_len]) | (simp only [ints_len]) | omega | (simp [*]; done))) | (refine And.intro ?_ ?_) | (intro h; first | (exact Bool.noConfusion h) | ((simp only [decide_eq_true_eq, decide_eq_false_iff_not, beq_iff_eq, bne_iff_ne, ne_eq, beq_eq_false_iff_ne, bne_eq_false_iff_eq, Bool.not_eq_true', Bool.not_eq_false', Bool.not_eq_true, Bool.not_eq_false, Int.not_le, Int.not_lt, Bool.and_eq_true, Bool.or_eq_true, Bool.or_eq_false_iff, Bool.and_eq_false_iff] at h); (try (first | (exact Bool.noConfusion h) | (exact (h trivial).elim)))) | skip) | ((refine (?_ : ACall _ _ _ _ _ _ _)); first | ((apply acall (impl_isProper _ _ _ _)); (focus (repeat' (first | exact rfl | (refine And.intro ?_ ?_) | (simp only [ints_len]; done) | (simp; done) | omega))))) | ((with_reducible refine (?_ : chk _ _ = true)); kernel_rfl) | exact trivial)
    all_goals (first | (rw [hP] at h; cases h; done) | rfl)
  | true =>
    obtain ⟨e1, e2, e3⟩ := mk_yes hP
    obtain ⟨b1, b2⟩ := prp_bd hP
    rw [e1, e2, e3]
    refine afun_intro fn37 (by simp) rfl (by repeat' (first | exact trivial | (simp; done) | refine ⟨?_, ?_⟩)) ?_
    unfold ac37
    repeat' (first | ((with_reducible refine (?_ : (_ : Bool) = _)); (with_reducible rfl)) | ((with_reducible refine (?_ : (_ : Nat × Nat) = _)); (with_reducible rfl)) | (with_reducible refine leafRI ?_) | (with_reducible refine leafRB ?_) | (with_reducible refine leafI ?_) | (with_reducible refine leafB ?_) | ((with_reducible refine (?_ : (_ : Int) = _)); (with_reducible rfl)) | ((with_reducible refine (?_ : (_ : List (List Value)) = _)); (with_reducible rfl)) | ((with_reducible refine (?_ : (_ : Int) ≠ 0)); (first | assumption | omega | (simp only [ints_len] at *; omega) | (simp; omega))) | ((with_reducible refine (?_ : (_ : Int) ≤ _)); (first | assumption | omega | (simp only [ints_len] at *; omega) | (simp; omega))) | ((with_reducible refine (?_ : (_ : Int) < _)); (first | assumption | omega | (simp only [ints_len] at *; omega) | (simp; omega))) | ((with_reducible refine (?_ : (_ : Nat) ≤ _)); (first | omega | (simp only [List.length_cons, List.length_nil]; omega) | (simp; omega))) | ((with_reducible refine (?_ : (_ : Nat) = _)); (first | (with_reducible rfl) | (simp; done) | (simp only [fr_len]) | (simp only [ints_len]) | omega | (simp [*]; done))) | (refine And.intro ?_ ?_) | (intro h; first | (exact Bool.noConfusion h) | ((simp only [decide_eq_true_eq, decide_eq_false_iff_not, beq_iff_eq, bne_iff_ne, ne_eq, beq_eq_false_iff_ne, bne_eq_false_iff_eq, Bool.not_eq_true', Bool.not_eq_false', Bool.not_eq_true, Bool.not_eq_false, Int.not_le, Int.not_lt, Bool.and_eq_true, Bool.or_eq_true, Bool.or_eq_false_iff, Bool.and_eq_false_iff] at h); (try (first | (exact Bool.noConfusion h) | (exact (h trivial).elim)))) | skip) | ((refine (?_ : ACall _ _ _ _ _ _ _)); first | ((apply acall (impl_isProper _ _ _ _)); (focus (repeat' (first | exact rfl | (refine And.intro ?_ ?_) | (simp only [ints_len]; done) | (simp; done) | omega)))) | ((apply acall (impl_wordOf _ _ _ _ ?_ ?_)); (focus (repeat' (first | exact rfl | (refine And.intro ?_ ?_) | (simp only [ints_len]; done) | (simp; done) | omega))))) | ((with_reducible refine (?_ : chk _ _ = true)); kernel_rfl) | exact trivial)
    all_goals (first | omega | (rw [hP] at h; cases h; done))

theorem mkL_len (m : T4) : (mkL m).length ≤ 40 := by
  unfold mkL
  split
  · rename_i h
    have : wrd (mwG m) (mwL m) = true := by simp [mkB, mxB] at h; exact h.2
    exact (wrd_len this).2.1
  · simp

theorem claw_MatrixWord (p q r s : Int) : AFun Try.prog 10 [] [Ma p q r s] (Bo true) [] [] := by
  have hl := mkL_len (p, q, r, s)
  refine afun_intro fn10 (by simp) rfl (by repeat' (first | exact trivial | (simp; done) | refine ⟨?_, ?_⟩)) ?_
  unfold ac10
  repeat' (first | ((with_reducible refine (?_ : (_ : Bool) = _)); (with_reducible rfl)) | ((with_reducible refine (?_ : (_ : Nat × Nat) = _)); (with_reducible rfl)) | (with_reducible refine leafRI ?_) | (with_reducible refine leafRB ?_) | (with_reducible refine leafI ?_) | (with_reducible refine leafB ?_) | ((with_reducible refine (?_ : (_ : Int) = _)); (with_reducible rfl)) | ((with_reducible refine (?_ : (_ : List (List Value)) = _)); (with_reducible rfl)) | ((with_reducible refine (?_ : (_ : Int) ≠ 0)); (first | assumption | omega | (simp only [ints_len] at *; omega) | (simp; omega))) | ((with_reducible refine (?_ : (_ : Int) ≤ _)); (first | assumption | omega | (simp only [ints_len] at *; omega) | (simp; omega))) | ((with_reducible refine (?_ : (_ : Int) < _)); (first | assumption | omega | (simp only [ints_len] at *; omega) | (simp; omega))) | ((with_reducible refine (?_ : (_ : Nat) ≤ _)); (first | omega | (simp only [List.length_cons, List.length_nil]; omega) | (simp; omega))) | ((with_reducible refine (?_ : (_ : Nat) = _)); (first | (with_reducible rfl) | (simp; done) | (simp only [fr_len]) | (simp only [ints_len]) | omega | (simp [*]; done))) | (refine And.intro ?_ ?_) | (intro h; first | (exact Bool.noConfusion h) | ((simp only [decide_eq_true_eq, decide_eq_false_iff_not, beq_iff_eq, bne_iff_ne, ne_eq, beq_eq_false_iff_ne, bne_eq_false_iff_eq, Bool.not_eq_true', Bool.not_eq_false', Bool.not_eq_true, Bool.not_eq_false, Int.not_le, Int.not_lt, Bool.and_eq_true, Bool.or_eq_true, Bool.or_eq_false_iff, Bool.and_eq_false_iff] at h); (try (first | (exact Bool.noConfusion h) | (exact (h trivial).elim)))) | skip) | ((refine (?_ : ACall _ _ _ _ _ _ _)); first | ((apply acall (laws_toMatrix _ _ _ _)); (focus (repeat' (first | exact rfl | (refine And.intro ?_ ?_) | (simp only [ints_len]; done) | (simp; done) | omega)))) | ((apply acall (spec_MatrixWord _ _ _ _)); (focus (repeat' (first | exact rfl | (refine And.intro ?_ ?_) | (simp only [ints_len]; done) | (simp; done) | omega)))) | ((apply acall (impl_MatrixWord _ _ _ _)); (focus (repeat' (first | exact rfl | (refine And.intro ?_ ?_) | (simp only [ints_len]; done) | (simp; done) | omega)))) | ((apply acall (laws_eqWord _ _ _ _ ?_ ?_)); (focus (repeat' (first | exact rfl | (refine And.intro ?_ ?_) | (simp only [ints_len]; done) | (simp; done) | omega)))) | ((apply alent (laws_markWord _ _ _ ?_ ?_ ?_)); (focus (exact rfl)); (focus (repeat' (first | exact rfl | (refine And.intro ?_ ?_) | (simp only [ints_len]; done) | (simp; done) | omega))); (focus (exact rfl))) | ((apply acall (laws_heldWord _ _ _ ?_ ?_ ?_)); (focus (repeat' (first | exact rfl | (refine And.intro ?_ ?_) | (simp only [ints_len]; done) | (simp; done) | omega))))) | ((with_reducible refine (?_ : chk _ _ = true)); kernel_rfl) | exact trivial)
  all_goals (first | omega | (simp_all; done) | skip)

theorem law_MatrixWord (p q r s : Int) (w : World) : Calls Try.prog 10 #[.agg #[.int .i64 p, .int .i64 q, .int .i64 r, .int .i64 s]] w fun e w' => e = .returned (.bool (true)) ∧ Below w.heap.size w w' := by
  exact law_of_afun (claw_MatrixWord p q r s) rfl w

end Go.Proofs.Ythdfladfokccdaa
