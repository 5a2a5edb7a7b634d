/- Contracts: forms, matrices, triples: what is checked first. -/
import Derived.Test.YtindcbcafmgfdaaA1
import Derived.Laws.StructEq
namespace Go.Proofs.Ytindcbcafmgfdaa
open Go.RowKit

/-! '==' between two structs of integers -/
@[go_sem] theorem eqGuard_32 : Try.prog.eqGuardType Try.prog.depth 32 = false := by kernel_rfl
@[go_sem ↓] theorem eqStruct_32 (a b c a' b' c' : Int) (w : World) : (Op.equalIn 10000 32 (.agg #[.int .i64 a, .int .i64 b, .int .i64 c]) (.agg #[.int .i64 a', .int .i64 b', .int .i64 c'])).run Try.prog w = .ok (a == a' && (b == b' && c == c')) w := by
  rw [show (10000 : Nat) = 9999 + 1 from rfl, run_equalIn_agg w 9999 32 _ _ (by kernel_rfl) (by kernel_rfl)]
  simp only [Program.fieldsOf, Try.underlying32]
  go_simp
  by_cases h1 : a = a' <;> by_cases h2 : b = b' <;> by_cases h3 : c = c' <;> simp [h1, h2, h3]

@[go_sem] theorem eqGuard_46 : Try.prog.eqGuardType Try.prog.depth 46 = false := by kernel_rfl
@[go_sem ↓] theorem eqStruct_46 (a b c a' b' c' : Int) (w : World) : (Op.equalIn 10000 46 (.agg #[.int .i64 a, .int .i64 b, .int .i64 c]) (.agg #[.int .i64 a', .int .i64 b', .int .i64 c'])).run Try.prog w = .ok (a == a' && (b == b' && c == c')) w := by
  rw [show (10000 : Nat) = 9999 + 1 from rfl, run_equalIn_agg w 9999 46 _ _ (by kernel_rfl) (by kernel_rfl)]
  simp only [Program.fieldsOf, Try.underlying46]
  go_simp
  by_cases h1 : a = a' <;> by_cases h2 : b = b' <;> by_cases h3 : c = c' <;> simp [h1, h2, h3]

@[go_sem] theorem eqGuard_25 : Try.prog.eqGuardType Try.prog.depth 25 = false := by kernel_rfl
@[go_sem ↓] theorem eqStruct_25 (a b c a' b' c' : Int) (w : World) : (Op.equalIn 10000 25 (.agg #[.int .i64 a, .int .i64 b, .int .i64 c]) (.agg #[.int .i64 a', .int .i64 b', .int .i64 c'])).run Try.prog w = .ok (a == a' && (b == b' && c == c')) w := by
  rw [show (10000 : Nat) = 9999 + 1 from rfl, run_equalIn_agg w 9999 25 _ _ (by kernel_rfl) (by kernel_rfl)]
  simp only [Program.fieldsOf, Try.underlying25]
  go_simp
  by_cases h1 : a = a' <;> by_cases h2 : b = b' <;> by_cases h3 : c = c' <;> simp [h1, h2, h3]


@[go_sem] theorem eqGuard_39 : Try.prog.eqGuardType Try.prog.depth 39 = false := by kernel_rfl
@[go_sem ↓] theorem eqStruct_39 (a b c d a' b' c' d' : Int) (w : World) : (Op.equalIn 10000 39 (.agg #[.int .i64 a, .int .i64 b, .int .i64 c, .int .i64 d]) (.agg #[.int .i64 a', .int .i64 b', .int .i64 c', .int .i64 d'])).run Try.prog w = .ok (a == a' && (b == b' && (c == c' && d == d'))) w := by
  rw [show (10000 : Nat) = 9999 + 1 from rfl, run_equalIn_agg w 9999 39 _ _ (by kernel_rfl) (by kernel_rfl)]
  simp only [Program.fieldsOf, Try.underlying39]
  go_simp
  by_cases h1 : a = a' <;> by_cases h2 : b = b' <;> by_cases h3 : c = c' <;> by_cases h4 : d = d' <;> simp [h1, h2, h3, h4]


theorem impl_isCoefficient (n : Int) (w : World) (h1 : -9223372036854775808 ≤ n) (h2 : n ≤ 9223372036854775807) :
    Calls Try.prog 46 #[.int .i64 n] w fun e w' => e = .returned (.bool (n != 0 && decide (-400 ≤ n ∧ n ≤ 400))) ∧ w = w' := by
  have ha := absI_le (n := n) (b := 400) (by omega) (by omega)
  by_cases h0 : n = 0
  · have e0 : (n != 0) = false := by simp [h0]
    clear h0
    go_enter Try.func46, Try.ntmps46
    go_wp2_with (first | (go_at_call 58; (with_reducible refine (impl_abs _ _ (by omega) (by omega)).mono ?_); rintro e w' ⟨rfl, rfl⟩))
    go_ret
    exact ⟨ret_bool (by simp [e0]), rfl⟩
  · have e0 : (n != 0) = true := by simp [h0]
    have HA := Lib.hid ha
    clear ha h0
    go_enter Try.func46, Try.ntmps46
    go_wp2_with (first | (go_at_call 58; (with_reducible refine (impl_abs _ _ (by omega) (by omega)).mono ?_); rintro e w' ⟨rfl, rfl⟩))
    go_ret
    exact ⟨ret_bool (by simp [HA.out, e0]), rfl⟩

/-- The discriminant as it is reckoned. -/
def discW (a b c : Int) : Int := wrap64 (wrap64 (b * b) - wrap64 (wrap64 (4 * a) * c))
def detW (p q r s : Int) : Int := wrap64 (wrap64 (p * s) - wrap64 (q * r))

theorem spec_foDisc (a b c : Int) (w : World) :
    Calls Try.prog 49 #[.agg #[.int .i64 a, .int .i64 b, .int .i64 c]] w fun e w' => e = .returned (.int .i64 (discW a b c)) ∧ Below w.heap.size w w' := by
  go_enter Try.func49, Try.ntmps49
  go_wp2
  go_ret
  exact ⟨ret_int rfl, (by repeat (first | (with_reducible exact Below.refl _ _) | (with_reducible assumption) | (with_reducible refine Below.drew ?_) | ((with_reducible refine bl_alloc ?_ ?_); (focus (first | omega | (simp; done) | (simp; omega)))) | ((with_reducible refine bl_set ?_ ?_); (focus (first | omega | (simp; done) | (simp; omega)))) | ((with_reducible refine bl_trans (by with_reducible assumption) ?_ ?_); (focus (first | omega | (simp; done) | (simp; omega))))))⟩

theorem impl_disc (a b c : Int) (w : World) :
    Calls Try.prog 50 #[.agg #[.int .i64 a, .int .i64 b, .int .i64 c]] w fun e w' => e = .returned (.int .i64 (discW a b c)) ∧ Below w.heap.size w w' := by
  go_enter Try.func50, Try.ntmps50
  go_wp2
  go_ret
  exact ⟨ret_int rfl, (by repeat (first | (with_reducible exact Below.refl _ _) | (with_reducible assumption) | (with_reducible refine Below.drew ?_) | ((with_reducible refine bl_alloc ?_ ?_); (focus (first | omega | (simp; done) | (simp; omega)))) | ((with_reducible refine bl_set ?_ ?_); (focus (first | omega | (simp; done) | (simp; omega)))) | ((with_reducible refine bl_trans (by with_reducible assumption) ?_ ?_); (focus (first | omega | (simp; done) | (simp; omega))))))⟩


theorem spec_foDet (p q r s : Int) (w : World) :
    Calls Try.prog 53 #[.agg #[.int .i64 p, .int .i64 q, .int .i64 r, .int .i64 s]] w fun e w' => e = .returned (.int .i64 (detW p q r s)) ∧ Below w.heap.size w w' := by
  go_enter Try.func53, Try.ntmps53
  go_wp2
  go_ret
  exact ⟨ret_int rfl, (by repeat (first | (with_reducible exact Below.refl _ _) | (with_reducible assumption) | (with_reducible refine Below.drew ?_) | ((with_reducible refine bl_alloc ?_ ?_); (focus (first | omega | (simp; done) | (simp; omega)))) | ((with_reducible refine bl_set ?_ ?_); (focus (first | omega | (simp; done) | (simp; omega)))) | ((with_reducible refine bl_trans (by with_reducible assumption) ?_ ?_); (focus (first | omega | (simp; done) | (simp; omega))))))⟩

theorem impl_det (p q r s : Int) (w : World) :
    Calls Try.prog 55 #[.agg #[.int .i64 p, .int .i64 q, .int .i64 r, .int .i64 s]] w fun e w' => e = .returned (.int .i64 (detW p q r s)) ∧ Below w.heap.size w w' := by
  go_enter Try.func55, Try.ntmps55
  go_wp2
  go_ret
  exact ⟨ret_int rfl, (by repeat (first | (with_reducible exact Below.refl _ _) | (with_reducible assumption) | (with_reducible refine Below.drew ?_) | ((with_reducible refine bl_alloc ?_ ?_); (focus (first | omega | (simp; done) | (simp; omega)))) | ((with_reducible refine bl_set ?_ ?_); (focus (first | omega | (simp; done) | (simp; omega)))) | ((with_reducible refine bl_trans (by with_reducible assumption) ?_ ?_); (focus (first | omega | (simp; done) | (simp; omega))))))⟩


theorem spec_foGood (a b c : Int) (w : World) :
    Calls Try.prog 35 #[.agg #[.int .i64 a, .int .i64 b, .int .i64 c]] w fun e w' => e = .returned (.bool (num a && num b && num c)) ∧ Below w.heap.size w w' := by
  go_enter Try.func35, Try.ntmps35
  go_wp2_with (first | (go_at_call 39; (with_reducible refine (spec_nuGood _ _).mono ?_); rintro e w' ⟨rfl, rfl⟩))
  all_goals go_ret
  all_goals exact ⟨ret_bool (by simp [*]), (by repeat (first | (with_reducible exact Below.refl _ _) | (with_reducible assumption) | (with_reducible refine Below.drew ?_) | ((with_reducible refine bl_alloc ?_ ?_); (focus (first | omega | (simp; done) | (simp; omega)))) | ((with_reducible refine bl_set ?_ ?_); (focus (first | omega | (simp; done) | (simp; omega)))) | ((with_reducible refine bl_trans (by with_reducible assumption) ?_ ?_); (focus (first | omega | (simp; done) | (simp; omega))))))⟩

theorem impl_IsForm (a b c : Int) (w : World) :
    Calls Try.prog 38 #[.agg #[.int .i64 a, .int .i64 b, .int .i64 c]] w fun e w' => e = .returned (.bool (num a && num b && num c)) ∧ Below w.heap.size w w' := by
  go_enter Try.func38, Try.ntmps38
  go_wp2_with (first | (go_at_call 41; (with_reducible refine (impl_areNumbers1 _ _ _ (by go_simp; rfl)).mono ?_); rintro e w' ⟨rfl, rfl⟩) | (go_at_call 41; (with_reducible refine (impl_areNumbers2 _ _ _ _ (by go_simp; rfl) (by go_simp; rfl)).mono ?_); rintro e w' ⟨rfl, rfl⟩) | (go_at_call 41; (with_reducible refine (impl_areNumbers3 _ _ _ _ _ (by go_simp; rfl) (by go_simp; rfl) (by go_simp; rfl)).mono ?_); rintro e w' ⟨rfl, rfl⟩) | (go_at_call 41; (with_reducible refine (impl_areNumbers4 _ _ _ _ _ _ (by go_simp; rfl) (by go_simp; rfl) (by go_simp; rfl) (by go_simp; rfl)).mono ?_); rintro e w' ⟨rfl, rfl⟩))
  all_goals go_ret
  all_goals exact ⟨ret_bool (by simp [*]), (by repeat (first | (with_reducible exact Below.refl _ _) | (with_reducible assumption) | (with_reducible refine Below.drew ?_) | ((with_reducible refine bl_alloc ?_ ?_); (focus (first | omega | (simp; done) | (simp; omega)))) | ((with_reducible refine bl_set ?_ ?_); (focus (first | omega | (simp; done) | (simp; omega)))) | ((with_reducible refine bl_trans (by with_reducible assumption) ?_ ?_); (focus (first | omega | (simp; done) | (simp; omega))))))⟩


theorem spec_foMatrix (p q r s : Int) (w : World) :
    Calls Try.prog 52 #[.agg #[.int .i64 p, .int .i64 q, .int .i64 r, .int .i64 s]] w fun e w' => e = .returned (.bool (num p && num q && num r && num s)) ∧ Below w.heap.size w w' := by
  go_enter Try.func52, Try.ntmps52
  go_wp2_with (first | (go_at_call 39; (with_reducible refine (spec_nuGood _ _).mono ?_); rintro e w' ⟨rfl, rfl⟩))
  all_goals go_ret
  all_goals exact ⟨ret_bool (by simp [*]), (by repeat (first | (with_reducible exact Below.refl _ _) | (with_reducible assumption) | (with_reducible refine Below.drew ?_) | ((with_reducible refine bl_alloc ?_ ?_); (focus (first | omega | (simp; done) | (simp; omega)))) | ((with_reducible refine bl_set ?_ ?_); (focus (first | omega | (simp; done) | (simp; omega)))) | ((with_reducible refine bl_trans (by with_reducible assumption) ?_ ?_); (focus (first | omega | (simp; done) | (simp; omega))))))⟩

theorem impl_IsMatrix (p q r s : Int) (w : World) :
    Calls Try.prog 54 #[.agg #[.int .i64 p, .int .i64 q, .int .i64 r, .int .i64 s]] w fun e w' => e = .returned (.bool (num p && num q && num r && num s)) ∧ Below w.heap.size w w' := by
  go_enter Try.func54, Try.ntmps54
  go_wp2_with (first | (go_at_call 41; (with_reducible refine (impl_areNumbers1 _ _ _ (by go_simp; rfl)).mono ?_); rintro e w' ⟨rfl, rfl⟩) | (go_at_call 41; (with_reducible refine (impl_areNumbers2 _ _ _ _ (by go_simp; rfl) (by go_simp; rfl)).mono ?_); rintro e w' ⟨rfl, rfl⟩) | (go_at_call 41; (with_reducible refine (impl_areNumbers3 _ _ _ _ _ (by go_simp; rfl) (by go_simp; rfl) (by go_simp; rfl)).mono ?_); rintro e w' ⟨rfl, rfl⟩) | (go_at_call 41; (with_reducible refine (impl_areNumbers4 _ _ _ _ _ _ (by go_simp; rfl) (by go_simp; rfl) (by go_simp; rfl) (by go_simp; rfl)).mono ?_); rintro e w' ⟨rfl, rfl⟩))
  all_goals go_ret
  all_goals exact ⟨ret_bool (by simp [*]), (by repeat (first | (with_reducible exact Below.refl _ _) | (with_reducible assumption) | (with_reducible refine Below.drew ?_) | ((with_reducible refine bl_alloc ?_ ?_); (focus (first | omega | (simp; done) | (simp; omega)))) | ((with_reducible refine bl_set ?_ ?_); (focus (first | omega | (simp; done) | (simp; omega)))) | ((with_reducible refine bl_trans (by with_reducible assumption) ?_ ?_); (focus (first | omega | (simp; done) | (simp; omega))))))⟩


def properB (p q r s : Int) : Bool := num p && num q && num r && num s && (detW p q r s == 1)
def defB (a b c : Int) : Bool := num a && num b && num c && decide (discW a b c < 0) && decide (0 < a)

theorem spec_moProper (p q r s : Int) (w : World) :
    Calls Try.prog 34 #[.agg #[.int .i64 p, .int .i64 q, .int .i64 r, .int .i64 s]] w fun e w' => e = .returned (.bool (properB p q r s)) ∧ Below w.heap.size w w' := by
  go_enter Try.func34, Try.ntmps34
  go_wp2_with (first | (go_at_call 52; (with_reducible refine (spec_foMatrix _ _ _ _ _).mono ?_); rintro e w' ⟨rfl, hb⟩; obtain ⟨hc, hf, hk⟩ := bcell hb; have hz := hb.size; (try simp at hz); (try simp only [World.size_alloc] at hc hf hk); (try (refine bone_elim hb (w.heap.size) ?_ ?_; (focus (first | omega | (simp; done) | (simp; omega))); intro g0 k0 s0)); (try (refine bone_elim hb (w.heap.size + 1) ?_ ?_; (focus (first | omega | (simp; done) | (simp; omega))); intro g1 k1 s1)); (try (refine bone_elim hb (w.heap.size + 1 + 1) ?_ ?_; (focus (first | omega | (simp; done) | (simp; omega))); intro g2 k2 s2)); (try (refine bone_elim hb (w.heap.size + 1 + 1 + 1) ?_ ?_; (focus (first | omega | (simp; done) | (simp; omega))); intro g3 k3 s3))) | (go_at_call 53; (with_reducible refine (spec_foDet _ _ _ _ _).mono ?_); rintro e w' ⟨rfl, hb⟩; obtain ⟨hc, hf, hk⟩ := bcell hb; have hz := hb.size; (try simp at hz); (try simp only [World.size_alloc] at hc hf hk); (try (refine bone_elim hb (w.heap.size) ?_ ?_; (focus (first | omega | (simp; done) | (simp; omega))); intro g0 k0 s0)); (try (refine bone_elim hb (w.heap.size + 1) ?_ ?_; (focus (first | omega | (simp; done) | (simp; omega))); intro g1 k1 s1)); (try (refine bone_elim hb (w.heap.size + 1 + 1) ?_ ?_; (focus (first | omega | (simp; done) | (simp; omega))); intro g2 k2 s2)); (try (refine bone_elim hb (w.heap.size + 1 + 1 + 1) ?_ ?_; (focus (first | omega | (simp; done) | (simp; omega))); intro g3 k3 s3))))
  all_goals go_ret
  all_goals exact ⟨ret_bool (by first | (simp [properB, *]; done) | (simp [properB, *]; omega)), (by repeat (first | (with_reducible exact Below.refl _ _) | (with_reducible assumption) | (with_reducible refine Below.drew ?_) | ((with_reducible refine bl_alloc ?_ ?_); (focus (first | omega | (simp; done) | (simp; omega)))) | ((with_reducible refine bl_set ?_ ?_); (focus (first | omega | (simp; done) | (simp; omega)))) | ((with_reducible refine bl_trans (by with_reducible assumption) ?_ ?_); (focus (first | omega | (simp; done) | (simp; omega))))))⟩

theorem impl_isProper (p q r s : Int) (w : World) :
    Calls Try.prog 37 #[.agg #[.int .i64 p, .int .i64 q, .int .i64 r, .int .i64 s]] w fun e w' => e = .returned (.bool (properB p q r s)) ∧ Below w.heap.size w w' := by
  go_enter Try.func37, Try.ntmps37
  go_wp2_with (first | (go_at_call 54; (with_reducible refine (impl_IsMatrix _ _ _ _ _).mono ?_); rintro e w' ⟨rfl, hb⟩; obtain ⟨hc, hf, hk⟩ := bcell hb; have hz := hb.size; (try simp at hz); (try simp only [World.size_alloc] at hc hf hk); (try (refine bone_elim hb (w.heap.size) ?_ ?_; (focus (first | omega | (simp; done) | (simp; omega))); intro g0 k0 s0)); (try (refine bone_elim hb (w.heap.size + 1) ?_ ?_; (focus (first | omega | (simp; done) | (simp; omega))); intro g1 k1 s1)); (try (refine bone_elim hb (w.heap.size + 1 + 1) ?_ ?_; (focus (first | omega | (simp; done) | (simp; omega))); intro g2 k2 s2)); (try (refine bone_elim hb (w.heap.size + 1 + 1 + 1) ?_ ?_; (focus (first | omega | (simp; done) | (simp; omega))); intro g3 k3 s3))) | (go_at_call 55; (with_reducible refine (impl_det _ _ _ _ _).mono ?_); rintro e w' ⟨rfl, hb⟩; obtain ⟨hc, hf, hk⟩ := bcell hb; have hz := hb.size; (try simp at hz); (try simp only [World.size_alloc] at hc hf hk); (try (refine bone_elim hb (w.heap.size) ?_ ?_; (focus (first | omega | (simp; done) | (simp; omega))); intro g0 k0 s0)); (try (refine bone_elim hb (w.heap.size + 1) ?_ ?_; (focus (first | omega | (simp; done) | (simp; omega))); intro g1 k1 s1)); (try (refine bone_elim hb (w.heap.size + 1 + 1) ?_ ?_; (focus (first | omega | (simp; done) | (simp; omega))); intro g2 k2 s2)); (try (refine bone_elim hb (w.heap.size + 1 + 1 + 1) ?_ ?_; (focus (first | omega | (simp; done) | (simp; omega))); intro g3 k3 s3))))
  all_goals go_ret
  all_goals exact ⟨ret_bool (by first | (simp [properB, *]; done) | (simp [properB, *]; omega)), (by repeat (first | (with_reducible exact Below.refl _ _) | (with_reducible assumption) | (with_reducible refine Below.drew ?_) | ((with_reducible refine bl_alloc ?_ ?_); (focus (first | omega | (simp; done) | (simp; omega)))) | ((with_reducible refine bl_set ?_ ?_); (focus (first | omega | (simp; done) | (simp; omega)))) | ((with_reducible refine bl_trans (by with_reducible assumption) ?_ ?_); (focus (first | omega | (simp; done) | (simp; omega))))))⟩


theorem spec_foDefinite (a b c : Int) (w : World) :
    Calls Try.prog 30 #[.agg #[.int .i64 a, .int .i64 b, .int .i64 c]] w fun e w' => e = .returned (.bool (defB a b c)) ∧ Below w.heap.size w w' := by
  go_enter Try.func30, Try.ntmps30
  go_wp2_with (first | (go_at_call 35; (with_reducible refine (spec_foGood _ _ _ _).mono ?_); rintro e w' ⟨rfl, hb⟩; obtain ⟨hc, hf, hk⟩ := bcell hb; have hz := hb.size; (try simp at hz); (try simp only [World.size_alloc] at hc hf hk); (try (refine bone_elim hb (w.heap.size) ?_ ?_; (focus (first | omega | (simp; done) | (simp; omega))); intro g0 k0 s0)); (try (refine bone_elim hb (w.heap.size + 1) ?_ ?_; (focus (first | omega | (simp; done) | (simp; omega))); intro g1 k1 s1)); (try (refine bone_elim hb (w.heap.size + 1 + 1) ?_ ?_; (focus (first | omega | (simp; done) | (simp; omega))); intro g2 k2 s2)); (try (refine bone_elim hb (w.heap.size + 1 + 1 + 1) ?_ ?_; (focus (first | omega | (simp; done) | (simp; omega))); intro g3 k3 s3))) | (go_at_call 49; (with_reducible refine (spec_foDisc _ _ _ _).mono ?_); rintro e w' ⟨rfl, hb⟩; obtain ⟨hc, hf, hk⟩ := bcell hb; have hz := hb.size; (try simp at hz); (try simp only [World.size_alloc] at hc hf hk); (try (refine bone_elim hb (w.heap.size) ?_ ?_; (focus (first | omega | (simp; done) | (simp; omega))); intro g0 k0 s0)); (try (refine bone_elim hb (w.heap.size + 1) ?_ ?_; (focus (first | omega | (simp; done) | (simp; omega))); intro g1 k1 s1)); (try (refine bone_elim hb (w.heap.size + 1 + 1) ?_ ?_; (focus (first | omega | (simp; done) | (simp; omega))); intro g2 k2 s2)); (try (refine bone_elim hb (w.heap.size + 1 + 1 + 1) ?_ ?_; (focus (first | omega | (simp; done) | (simp; omega))); intro g3 k3 s3))))
  all_goals go_ret
  all_goals exact ⟨ret_bool (by first | (simp [defB, *]; done) | (simp [defB, *]; omega)), (by repeat (first | (with_reducible exact Below.refl _ _) | (with_reducible assumption) | (with_reducible refine Below.drew ?_) | ((with_reducible refine bl_alloc ?_ ?_); (focus (first | omega | (simp; done) | (simp; omega)))) | ((with_reducible refine bl_set ?_ ?_); (focus (first | omega | (simp; done) | (simp; omega)))) | ((with_reducible refine bl_trans (by with_reducible assumption) ?_ ?_); (focus (first | omega | (simp; done) | (simp; omega))))))⟩

theorem impl_isDefinite (a b c : Int) (w : World) :
    Calls Try.prog 32 #[.agg #[.int .i64 a, .int .i64 b, .int .i64 c]] w fun e w' => e = .returned (.bool (defB a b c)) ∧ Below w.heap.size w w' := by
  go_enter Try.func32, Try.ntmps32
  go_wp2_with (first | (go_at_call 38; (with_reducible refine (impl_IsForm _ _ _ _).mono ?_); rintro e w' ⟨rfl, hb⟩; obtain ⟨hc, hf, hk⟩ := bcell hb; have hz := hb.size; (try simp at hz); (try simp only [World.size_alloc] at hc hf hk); (try (refine bone_elim hb (w.heap.size) ?_ ?_; (focus (first | omega | (simp; done) | (simp; omega))); intro g0 k0 s0)); (try (refine bone_elim hb (w.heap.size + 1) ?_ ?_; (focus (first | omega | (simp; done) | (simp; omega))); intro g1 k1 s1)); (try (refine bone_elim hb (w.heap.size + 1 + 1) ?_ ?_; (focus (first | omega | (simp; done) | (simp; omega))); intro g2 k2 s2)); (try (refine bone_elim hb (w.heap.size + 1 + 1 + 1) ?_ ?_; (focus (first | omega | (simp; done) | (simp; omega))); intro g3 k3 s3))) | (go_at_call 50; (with_reducible refine (impl_disc _ _ _ _).mono ?_); rintro e w' ⟨rfl, hb⟩; obtain ⟨hc, hf, hk⟩ := bcell hb; have hz := hb.size; (try simp at hz); (try simp only [World.size_alloc] at hc hf hk); (try (refine bone_elim hb (w.heap.size) ?_ ?_; (focus (first | omega | (simp; done) | (simp; omega))); intro g0 k0 s0)); (try (refine bone_elim hb (w.heap.size + 1) ?_ ?_; (focus (first | omega | (simp; done) | (simp; omega))); intro g1 k1 s1)); (try (refine bone_elim hb (w.heap.size + 1 + 1) ?_ ?_; (focus (first | omega | (simp; done) | (simp; omega))); intro g2 k2 s2)); (try (refine bone_elim hb (w.heap.size + 1 + 1 + 1) ?_ ?_; (focus (first | omega | (simp; done) | (simp; omega))); intro g3 k3 s3))))
  all_goals go_ret
  all_goals exact ⟨ret_bool (by first | (simp [defB, *]; done) | (simp [defB, *]; omega)), (by repeat (first | (with_reducible exact Below.refl _ _) | (with_reducible assumption) | (with_reducible refine Below.drew ?_) | ((with_reducible refine bl_alloc ?_ ?_); (focus (first | omega | (simp; done) | (simp; omega)))) | ((with_reducible refine bl_set ?_ ?_); (focus (first | omega | (simp; done) | (simp; omega)))) | ((with_reducible refine bl_trans (by with_reducible assumption) ?_ ?_); (focus (first | omega | (simp; done) | (simp; omega))))))⟩


theorem laws_toTriple (a b c : Int) (w : World) :
    Calls Try.prog 10 #[.agg #[.int .i64 a, .int .i64 b, .int .i64 c]] w fun e w' => e = .returned (.agg #[.int .i64 a, .int .i64 b, .int .i64 c]) ∧ Below w.heap.size w w' := by
  go_enter Try.func10, Try.ntmps10
  go_wp2
  simp [bodyPost, results, Try.results10, go_sem, *]
  exact (by repeat (first | (with_reducible exact Below.refl _ _) | (with_reducible assumption) | (with_reducible refine Below.drew ?_) | ((with_reducible refine bl_alloc ?_ ?_); (focus (first | omega | (simp; done) | (simp; omega)))) | ((with_reducible refine bl_set ?_ ?_); (focus (first | omega | (simp; done) | (simp; omega)))) | ((with_reducible refine bl_trans (by with_reducible assumption) ?_ ?_); (focus (first | omega | (simp; done) | (simp; omega))))))

theorem laws_toForm (a b c : Int) (w : World) :
    Calls Try.prog 15 #[.agg #[.int .i64 a, .int .i64 b, .int .i64 c]] w fun e w' => e = .returned (.agg #[.int .i64 a, .int .i64 b, .int .i64 c]) ∧ Below w.heap.size w w' := by
  go_enter Try.func15, Try.ntmps15
  go_wp2
  simp [bodyPost, results, Try.results15, go_sem, *]
  exact (by repeat (first | (with_reducible exact Below.refl _ _) | (with_reducible assumption) | (with_reducible refine Below.drew ?_) | ((with_reducible refine bl_alloc ?_ ?_); (focus (first | omega | (simp; done) | (simp; omega)))) | ((with_reducible refine bl_set ?_ ?_); (focus (first | omega | (simp; done) | (simp; omega)))) | ((with_reducible refine bl_trans (by with_reducible assumption) ?_ ?_); (focus (first | omega | (simp; done) | (simp; omega))))))

theorem laws_toSpot (a b c : Int) (w : World) :
    Calls Try.prog 22 #[.agg #[.int .i64 a, .int .i64 b, .int .i64 c]] w fun e w' => e = .returned (.agg #[.int .i64 a, .int .i64 b, .int .i64 c]) ∧ Below w.heap.size w w' := by
  go_enter Try.func22, Try.ntmps22
  go_wp2
  simp [bodyPost, results, Try.results22, go_sem, *]
  exact (by repeat (first | (with_reducible exact Below.refl _ _) | (with_reducible assumption) | (with_reducible refine Below.drew ?_) | ((with_reducible refine bl_alloc ?_ ?_); (focus (first | omega | (simp; done) | (simp; omega)))) | ((with_reducible refine bl_set ?_ ?_); (focus (first | omega | (simp; done) | (simp; omega)))) | ((with_reducible refine bl_trans (by with_reducible assumption) ?_ ?_); (focus (first | omega | (simp; done) | (simp; omega))))))


theorem laws_toMatrix (p q r s : Int) (w : World) :
    Calls Try.prog 18 #[.agg #[.int .i64 p, .int .i64 q, .int .i64 r, .int .i64 s]] w fun e w' => e = .returned (.agg #[.int .i64 p, .int .i64 q, .int .i64 r, .int .i64 s]) ∧ Below w.heap.size w w' := by
  go_enter Try.func18, Try.ntmps18
  go_wp2
  simp [bodyPost, results, Try.results18, go_sem, *]
  exact (by repeat (first | (with_reducible exact Below.refl _ _) | (with_reducible assumption) | (with_reducible refine Below.drew ?_) | ((with_reducible refine bl_alloc ?_ ?_); (focus (first | omega | (simp; done) | (simp; omega)))) | ((with_reducible refine bl_set ?_ ?_); (focus (first | omega | (simp; done) | (simp; omega)))) | ((with_reducible refine bl_trans (by with_reducible assumption) ?_ ?_); (focus (first | omega | (simp; done) | (simp; omega))))))

theorem wrap64_small {n : Int} (h1 : -9223372036854775808 ≤ n) (h2 : n ≤ 9223372036854775807) : wrap64 n = n := by
  simp only [wrap64]; omega

theorem impl_trace (p q r s : Int) (w : World) (h1 : -1000000000000 ≤ p) (h2 : p ≤ 1000000000000) (h3 : -1000000000000 ≤ s) (h4 : s ≤ 1000000000000) :
    Calls Try.prog 59 #[.agg #[.int .i64 p, .int .i64 q, .int .i64 r, .int .i64 s]] w fun e w' => e = .returned (.int .i64 (p + s)) ∧ Below w.heap.size w w' := by
  go_enter Try.func59, Try.ntmps59
  go_wp2
  go_ret
  exact ⟨ret_int rfl, (by repeat (first | (with_reducible exact Below.refl _ _) | (with_reducible assumption) | (with_reducible refine Below.drew ?_) | ((with_reducible refine bl_alloc ?_ ?_); (focus (first | omega | (simp; done) | (simp; omega)))) | ((with_reducible refine bl_set ?_ ?_); (focus (first | omega | (simp; done) | (simp; omega)))) | ((with_reducible refine bl_trans (by with_reducible assumption) ?_ ?_); (focus (first | omega | (simp; done) | (simp; omega))))))⟩

theorem impl_one (w : World) :
    Calls Try.prog 60 #[] w fun e w' => e = .returned (.agg #[.int .i64 1, .int .i64 0, .int .i64 0, .int .i64 1]) ∧ Below w.heap.size w w' := by
  go_enter Try.func60, Try.ntmps60
  go_wp2
  simp [bodyPost, results, Try.results60, go_sem, *]
  exact (by repeat (first | (with_reducible exact Below.refl _ _) | (with_reducible assumption) | (with_reducible refine Below.drew ?_) | ((with_reducible refine bl_alloc ?_ ?_); (focus (first | omega | (simp; done) | (simp; omega)))) | ((with_reducible refine bl_set ?_ ?_); (focus (first | omega | (simp; done) | (simp; omega)))) | ((with_reducible refine bl_trans (by with_reducible assumption) ?_ ?_); (focus (first | omega | (simp; done) | (simp; omega))))))

theorem impl_negative (p q r s : Int) (w : World) :
    Calls Try.prog 61 #[.agg #[.int .i64 p, .int .i64 q, .int .i64 r, .int .i64 s]] w fun e w' => e = .returned (.agg #[.int .i64 (wrap64 (-p)), .int .i64 (wrap64 (-q)), .int .i64 (wrap64 (-r)), .int .i64 (wrap64 (-s))]) ∧ Below w.heap.size w w' := by
  go_enter Try.func61, Try.ntmps61
  go_wp2
  simp [bodyPost, results, Try.results61, go_sem, *]
  exact (by repeat (first | (with_reducible exact Below.refl _ _) | (with_reducible assumption) | (with_reducible refine Below.drew ?_) | ((with_reducible refine bl_alloc ?_ ?_); (focus (first | omega | (simp; done) | (simp; omega)))) | ((with_reducible refine bl_set ?_ ?_); (focus (first | omega | (simp; done) | (simp; omega)))) | ((with_reducible refine bl_trans (by with_reducible assumption) ?_ ?_); (focus (first | omega | (simp; done) | (simp; omega))))))

theorem impl_negative_one (w : World) :
    Calls Try.prog 61 #[.agg #[.int .i64 1, .int .i64 0, .int .i64 0, .int .i64 1]] w fun e w' => e = .returned (.agg #[.int .i64 (-1), .int .i64 0, .int .i64 0, .int .i64 (-1)]) ∧ Below w.heap.size w w' := by
  go_enter Try.func61, Try.ntmps61
  go_wp2
  simp [bodyPost, results, Try.results61, go_sem, *]
  exact (by repeat (first | (with_reducible exact Below.refl _ _) | (with_reducible assumption) | (with_reducible refine Below.drew ?_) | ((with_reducible refine bl_alloc ?_ ?_); (focus (first | omega | (simp; done) | (simp; omega)))) | ((with_reducible refine bl_set ?_ ?_); (focus (first | omega | (simp; done) | (simp; omega)))) | ((with_reducible refine bl_trans (by with_reducible assumption) ?_ ?_); (focus (first | omega | (simp; done) | (simp; omega))))))

end Go.Proofs.Ytindcbcafmgfdaa
