/- The law on isotropy: joined. -/
import Derived.Test.YtfcndlagnhaafaaSC
import Derived.Test.YtfcndlagnhaafaaSD
import Derived.Test.YtfcndlagnhaafaaSE
namespace Go.Proofs.Ytfcndlagnhaafaa
open Go.RowKit
set_option linter.unusedSimpArgs false
set_option linter.unusedVariables false
set_option maxRecDepth 100000
set_option maxHeartbeats 2000000

theorem two_pow_le {r : Int} (h : 2 ≤ r) : ∀ n : Nat, (2 : Int) ^ n ≤ r ^ n
  | 0 => by simp
  | n + 1 => by
    rw [Int.pow_succ, Int.pow_succ]
    exact Int.mul_le_mul (two_pow_le h n) h (by decide) (Int.le_of_lt (Int.pow_pos (by omega)))

theorem claw_Isotropy (v v' : Value) (l l' : List Int) (hl : l.length ≤ 9223372036854775807) (hb : ∀ n ∈ l, 0 ≤ n ∧ n ≤ 255) (hb' : ∀ n ∈ l', 0 ≤ n ∧ n ≤ 255) : AFun Try.prog 3 [] [By v l, By v' l'] (Bo true) [] [] := by
  have hc := laws_big v v' l l' hl
  by_cases hbig : 1048576 < l.length ∨ 1048576 - l.length < l'.length
  · rw [show (decide (1048576 < l.length) || decide (1048576 - l.length < l'.length)) = true by simp only [Bool.or_eq_true, decide_eq_true_eq]; omega] at hc
    refine afun_intro fn3 rfl rfl (by repeat' (first | exact trivial | (simp; done) | refine ⟨?_, ?_⟩)) ?_
    unfold ac3
    repeat' (first | ((with_reducible refine (?_ : (_ : Bool) = _)); (with_reducible rfl)) | ((with_reducible refine (?_ : (_ : Nat × Nat) = _)); (with_reducible rfl)) | (with_reducible refine leafRI ?_) | (with_reducible refine leafRB ?_) | (with_reducible refine leafI ?_) | (with_reducible refine leafB ?_) | ((with_reducible refine (?_ : (_ : Int) = _)); (with_reducible rfl)) | ((with_reducible refine (?_ : (_ : List (List Value)) = _)); (with_reducible rfl)) | ((with_reducible refine (?_ : (_ : Int) ≠ 0)); (first | assumption | omega | (simp; done) | (simp only [ints_len] at *; omega) | (simp; omega))) | ((with_reducible refine (?_ : (_ : Int) ≤ _)); (first | assumption | omega | (simp; done) | (simp only [ints_len] at *; omega) | (simp; omega))) | ((with_reducible refine (?_ : (_ : Int) < _)); (first | assumption | omega | (simp; done) | (simp only [ints_len] at *; omega) | (simp; omega))) | ((with_reducible refine (?_ : (_ : Nat) ≤ _)); (first | omega | (simp only [List.length_cons, List.length_nil]; omega) | (simp [ints]; done) | (simp; omega))) | ((with_reducible refine (?_ : (_ : Nat) < _)); (first | omega | (simp only [List.length_cons, List.length_nil]; omega) | (simp [ints]; done) | (simp; omega))) | ((with_reducible refine (?_ : (_ : Nat) = _)); (first | (with_reducible rfl) | (simp; done) | (simp only [fr_len]) | (simp only [ints_len]) | omega | (simp [*]; done))) | (refine And.intro ?_ ?_) | (intro h; first | (exact Bool.noConfusion h) | ((simp only [decide_eq_true_eq, decide_eq_false_iff_not, beq_iff_eq, bne_iff_ne, ne_eq, beq_eq_false_iff_ne, bne_eq_false_iff_eq, Bool.not_eq_true', Bool.not_eq_false', Bool.not_eq_true, Bool.not_eq_false, Int.not_le, Int.not_lt, Bool.and_eq_true, Bool.or_eq_true, Bool.or_eq_false_iff, Bool.and_eq_false_iff] at h); (try (first | (exact Bool.noConfusion h) | (exact (h trivial).elim)))) | skip) | ((refine (?_ : ACall _ _ _ _ _ _ _)); first | ((apply acall (hc)); (focus ((repeat' (first | exact rfl | (refine And.intro ?_ ?_) | (simp only [ints_len]; done))); done)))) | ((with_reducible refine (?_ : chk _ _ = true)); kernel_rfl) | ((with_reducible refine (?_ : (_ : IntKind) = _)); (with_reducible rfl)) | ((with_reducible refine (?_ : eqC (C.pvw _ _ _) (C.pvw _ _ _))); exact rfl) | ((with_reducible refine (?_ : eqC (C.pv (Value.int IntKind.u64 _)) _)); exact rfl) | ((with_reducible refine (?_ : eqC (C.pv (Value.string _)) _)); exact rfl) | exact trivial)
  rw [show (decide (1048576 < l.length) || decide (1048576 - l.length < l'.length)) = false by rw [Bool.or_eq_false_iff, decide_eq_false_iff_not, decide_eq_false_iff_not]; omega] at hc
  obtain ⟨L, p, hL, ip, d1⟩ := DrawIsIsotropic_ex v l ⟨by omega, hb⟩
  obtain ⟨a, b, r, m, ia, ib, ir, im, d2⟩ := DrawSolutionModulo_ex v' l' ⟨by omega, hb'⟩
  have k1 := impl_IsIsotropic L p (by omega)
  have k2 := spec_IsIsotropic L p (by omega)
  have k3 := impl_HasseInvariant L p (by omega)
  have k4 := spec_HasseInvariant L p (by omega)
  have k5 := impl_IsIsotropic L.reverse p (by rw [List.length_reverse]; omega)
  have k6 := impl_HasseInvariant L.reverse p (by rw [List.length_reverse]; omega)
  have k7 := impl_AnisotropicPlaces L (by omega)
  have k8 := spec_AnisotropicPlaces L (by omega)
  have hQ := apV_len L
  have k9 := laws_qIn (apV L) p (by omega)
  have k10 := impl_SolutionModulo a b r m im.1 im.2
  have k11 := spec_SolutionModulo a b r m
  have q3 : L.length = 3 → ((apV L).length : Int).tmod 2 = 0 := fun h => by
    have := apV_three h
    rw [tmod_nonneg' (by omega)]
    omega
  have q4 : 4 < L.length → (apV L).length ≤ 1 := apV_five
  have hap : apG L = true → haG L p = true → decide (p ∈ apV L) = !isV L p := apV_mem
  have hsm : smB a b r m = true → _ := fun h => sm_ok h
  have hr1 : haG L p = true → isV L.reverse p = isV L p := isV_rev
  have hr2 : haG L p = true → haV L.reverse p = haV L p := haV_rev
  rw [haG_rev] at k5 k6
  have hno : haG L p = false → isV L p = false := fun h => by unfold isV; rw [if_neg (by rw [h]; decide)]
  have hm5 : smB a b r m = true → m ≤ 1000000 := fun h => by
    obtain ⟨_, h2, h3, h4⟩ := sm_ok h
    refine Int.not_lt.1 fun hlt => ?_
    have e : r ^ m.toNat = r ^ 64 * r ^ (m.toNat - 64) := by rw [← Int.pow_add]; congr 1; omega
    have p1 : (2 : Int) ^ 64 ≤ r ^ 64 := two_pow_le h3 64
    have p2 : 0 < r ^ (m.toNat - 64) := Int.pow_pos (by omega)
    have p3 := Int.mul_le_mul p1 (show 1 ≤ r ^ (m.toNat - 64) by omega) (by decide) (by omega)
    rw [← e] at p3
    have p4 : (2 : Int) ^ 64 * 1 = 18446744073709551616 := by decide
    omega
  generalize hG : haG L p = G at *
  generalize hI : isV L p = Is at *
  generalize hA : apG L = A at *
  generalize hS : smB a b r m = S at *
  cases G with
  | false =>
    have hn := hno rfl
    subst hn
    cases A with
    | false =>
      cases S with
      | false => exact is_Aff v v' l l' L _ p a b r m _ _ _ _ hc d1 d2 k1 k2 k3 k4 k7 k8 k10 k11 hL hQ
      | true =>
        obtain ⟨s1, s2, s3, s4⟩ := hsm rfl
        exact is_Aft v v' l l' L _ p a b r m _ _ _ _ hc d1 d2 k1 k2 k3 k4 k7 k8 k10 k11 hL hQ s1 s2 s3 s4 (hm5 rfl)
    | true =>
      cases S with
      | false => exact is_Atf v v' l l' L _ p a b r m _ _ _ _ hc d1 d2 k1 k2 k3 k4 k7 k8 k10 k11 hL hQ q3 q4
      | true =>
        obtain ⟨s1, s2, s3, s4⟩ := hsm rfl
        exact is_Att v v' l l' L _ p a b r m _ _ _ _ hc d1 d2 k1 k2 k3 k4 k7 k8 k10 k11 hL hQ q3 q4 s1 s2 s3 s4 (hm5 rfl)
  | true =>
    rw [hr1 rfl] at k5
    rw [hr2 rfl] at k6
    cases Is with
    | false =>
      cases A with
      | false =>
        cases S with
        | false => exact is_Bff v v' l l' L _ p a b r m _ _ _ _ hc d1 d2 k1 k2 k3 k4 k5 k6 k7 k8 k10 k11 hL hQ
        | true =>
          obtain ⟨s1, s2, s3, s4⟩ := hsm rfl
          exact is_Bft v v' l l' L _ p a b r m _ _ _ _ hc d1 d2 k1 k2 k3 k4 k5 k6 k7 k8 k10 k11 hL hQ s1 s2 s3 s4 (hm5 rfl)
      | true =>
        rw [hap rfl rfl] at k9
        cases S with
        | false => exact is_Btf v v' l l' L _ p a b r m _ _ _ _ hc d1 d2 k1 k2 k3 k4 k5 k6 k7 k8 k9 k10 k11 hL hQ q3 q4
        | true =>
          obtain ⟨s1, s2, s3, s4⟩ := hsm rfl
          exact is_Btt v v' l l' L _ p a b r m _ _ _ _ hc d1 d2 k1 k2 k3 k4 k5 k6 k7 k8 k9 k10 k11 hL hQ q3 q4 s1 s2 s3 s4 (hm5 rfl)
    | true =>
      cases A with
      | false =>
        cases S with
        | false => exact is_Cff v v' l l' L _ p a b r m _ _ _ _ hc d1 d2 k1 k2 k3 k4 k5 k6 k7 k8 k10 k11 hL hQ
        | true =>
          obtain ⟨s1, s2, s3, s4⟩ := hsm rfl
          exact is_Cft v v' l l' L _ p a b r m _ _ _ _ hc d1 d2 k1 k2 k3 k4 k5 k6 k7 k8 k10 k11 hL hQ s1 s2 s3 s4 (hm5 rfl)
      | true =>
        rw [hap rfl rfl] at k9
        cases S with
        | false => exact is_Ctf v v' l l' L _ p a b r m _ _ _ _ hc d1 d2 k1 k2 k3 k4 k5 k6 k7 k8 k9 k10 k11 hL hQ q3 q4
        | true =>
          obtain ⟨s1, s2, s3, s4⟩ := hsm rfl
          exact is_Ctt v v' l l' L _ p a b r m _ _ _ _ hc d1 d2 k1 k2 k3 k4 k5 k6 k7 k8 k9 k10 k11 hL hQ q3 q4 s1 s2 s3 s4 (hm5 rfl)

theorem law_Isotropy (l : List Int) (k : List Int) (w : World) (v : Value) (hv : CameB w l v) (u : Value) (hu : CameB w k u) : Calls Try.prog 3 #[v, u] w fun e w' => e = .returned (.bool (true)) ∧ Below w.heap.size w w' := by
  exact law_of_afunA (claw_Isotropy v u l k hv.len hv.byte hu.byte) w ⟨⟨rfl, hv.view⟩, ⟨rfl, hu.view⟩, trivial⟩

end Go.Proofs.Ytfcndlagnhaafaa
