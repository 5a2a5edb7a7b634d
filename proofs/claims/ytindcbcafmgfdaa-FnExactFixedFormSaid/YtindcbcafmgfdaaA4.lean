/- The walks of the laws over matrices: fixed forms, kinds; and solutions. -/
import Derived.Test.YtindcbcafmgfdaaA3
namespace Go.Proofs.Ytindcbcafmgfdaa
open Go.RowKit

theorem spec_moForm (p q r s : Int) (w : World) :
    Calls Try.prog 36 #[.agg #[.int .i64 p, .int .i64 q, .int .i64 r, .int .i64 s]] w fun e w' => e = .returned (.agg #[.int .i64 r, .int .i64 (wrap64 (s - p)), .int .i64 (wrap64 (-q))]) ∧ Below w.heap.size w w' := by
  go_enter Try.func36, Try.ntmps36
  go_wp2
  simp [bodyPost, results, Try.results36, go_sem, *]
  exact (by repeat (first | exact Below.refl _ _ | assumption | refine Below.drew ?_ | refine Below.alloc ?_ (by first | omega | (simp; done) | (simp; omega)) _ | refine Below.setCell ?_ (by first | omega | (simp; done) | (simp; omega)) _ | (refine Below.trans ?_ (Below.mono (by assumption) (by first | omega | (simp; done) | (simp; omega))))))


def fixedB (p q r s : Int) : Bool := properB p q r s && (num r && num (wrap64 (s - p)) && num (wrap64 (-q)))

theorem fixedB_false {p q r s : Int} (hd : fixedB p q r s = false) : properB p q r s = false ∨ properB p q r s = true ∧ (num r && num (wrap64 (s - p)) && num (wrap64 (-q))) = false := by
  cases h : properB p q r s
  · exact .inl rfl
  · refine .inr ⟨rfl, ?_⟩; rw [fixedB, h] at hd; simpa using hd

theorem spec_FixedForm_yes (p q r s : Int) (w : World) (hd : fixedB p q r s = true) :
    Calls Try.prog 17 #[.agg #[.int .i64 p, .int .i64 q, .int .i64 r, .int .i64 s]] w fun e w' => e = .returned (.tuple #[.agg #[.int .i64 r, .int .i64 (wrap64 (s - p)), .int .i64 (wrap64 (-q))], .bool true]) ∧ Below w.heap.size w w' := by
  obtain ⟨h1, h2⟩ : properB p q r s = true ∧ (num r && num (wrap64 (s - p)) && num (wrap64 (-q))) = true := by simpa [fixedB] using hd
  clear hd
  go_enter Try.func17, Try.ntmps17
  go_wp2_with (first | (go_at_call 34; (with_reducible refine (spec_moProper _ _ _ _ _).mono ?_); rintro e w' ⟨rfl, hb⟩; obtain ⟨hc, hf, hk⟩ := bcell hb; have hz := hb.size; (try simp at hz); (try simp only [World.size_alloc] at hc hf hk); (try (refine bone_elim hb (w.heap.size) ?_ ?_; (focus (first | omega | (simp; done) | (simp; omega))); intro g0 k0 s0)); (try (refine bone_elim hb (w.heap.size + 1) ?_ ?_; (focus (first | omega | (simp; done) | (simp; omega))); intro g1 k1 s1)); (try (refine bone_elim hb (w.heap.size + 1 + 1) ?_ ?_; (focus (first | omega | (simp; done) | (simp; omega))); intro g2 k2 s2)); (try (refine bone_elim hb (w.heap.size + 1 + 1 + 1) ?_ ?_; (focus (first | omega | (simp; done) | (simp; omega))); intro g3 k3 s3))) | (go_at_call 36; (with_reducible refine (spec_moForm _ _ _ _ _).mono ?_); rintro e w' ⟨rfl, hb⟩; obtain ⟨hc, hf, hk⟩ := bcell hb; have hz := hb.size; (try simp at hz); (try simp only [World.size_alloc] at hc hf hk); (try (refine bone_elim hb (w.heap.size) ?_ ?_; (focus (first | omega | (simp; done) | (simp; omega))); intro g0 k0 s0)); (try (refine bone_elim hb (w.heap.size + 1) ?_ ?_; (focus (first | omega | (simp; done) | (simp; omega))); intro g1 k1 s1)); (try (refine bone_elim hb (w.heap.size + 1 + 1) ?_ ?_; (focus (first | omega | (simp; done) | (simp; omega))); intro g2 k2 s2)); (try (refine bone_elim hb (w.heap.size + 1 + 1 + 1) ?_ ?_; (focus (first | omega | (simp; done) | (simp; omega))); intro g3 k3 s3))) | (go_at_call 35; (with_reducible refine (spec_foGood _ _ _ _).mono ?_); rintro e w' ⟨rfl, hb⟩; obtain ⟨hc, hf, hk⟩ := bcell hb; have hz := hb.size; (try simp at hz); (try simp only [World.size_alloc] at hc hf hk); (try (refine bone_elim hb (w.heap.size) ?_ ?_; (focus (first | omega | (simp; done) | (simp; omega))); intro g0 k0 s0)); (try (refine bone_elim hb (w.heap.size + 1) ?_ ?_; (focus (first | omega | (simp; done) | (simp; omega))); intro g1 k1 s1)); (try (refine bone_elim hb (w.heap.size + 1 + 1) ?_ ?_; (focus (first | omega | (simp; done) | (simp; omega))); intro g2 k2 s2)); (try (refine bone_elim hb (w.heap.size + 1 + 1 + 1) ?_ ?_; (focus (first | omega | (simp; done) | (simp; omega))); intro g3 k3 s3))))
  simp [bodyPost, results, Try.results17, go_sem, *]
  exact (by repeat (first | exact Below.refl _ _ | assumption | refine Below.drew ?_ | refine Below.alloc ?_ (by first | omega | (simp; done) | (simp; omega)) _ | refine Below.setCell ?_ (by first | omega | (simp; done) | (simp; omega)) _ | (refine Below.trans ?_ (Below.mono (by assumption) (by first | omega | (simp; done) | (simp; omega))))))

theorem spec_FixedForm_no (p q r s : Int) (w : World) (hd : fixedB p q r s = false) :
    Calls Try.prog 17 #[.agg #[.int .i64 p, .int .i64 q, .int .i64 r, .int .i64 s]] w fun e w' => e = .returned (.tuple #[.agg #[.int .i64 0, .int .i64 0, .int .i64 0], .bool false]) ∧ Below w.heap.size w w' := by
  have h3 := fixedB_false hd
  clear hd
  rcases h3 with h3 | ⟨h3, h4⟩
  all_goals
    go_enter Try.func17, Try.ntmps17
    go_wp2_with (first | (go_at_call 34; (with_reducible refine (spec_moProper _ _ _ _ _).mono ?_); rintro e w' ⟨rfl, hb⟩; obtain ⟨hc, hf, hk⟩ := bcell hb; have hz := hb.size; (try simp at hz); (try simp only [World.size_alloc] at hc hf hk); (try (refine bone_elim hb (w.heap.size) ?_ ?_; (focus (first | omega | (simp; done) | (simp; omega))); intro g0 k0 s0)); (try (refine bone_elim hb (w.heap.size + 1) ?_ ?_; (focus (first | omega | (simp; done) | (simp; omega))); intro g1 k1 s1)); (try (refine bone_elim hb (w.heap.size + 1 + 1) ?_ ?_; (focus (first | omega | (simp; done) | (simp; omega))); intro g2 k2 s2)); (try (refine bone_elim hb (w.heap.size + 1 + 1 + 1) ?_ ?_; (focus (first | omega | (simp; done) | (simp; omega))); intro g3 k3 s3))) | (go_at_call 36; (with_reducible refine (spec_moForm _ _ _ _ _).mono ?_); rintro e w' ⟨rfl, hb⟩; obtain ⟨hc, hf, hk⟩ := bcell hb; have hz := hb.size; (try simp at hz); (try simp only [World.size_alloc] at hc hf hk); (try (refine bone_elim hb (w.heap.size) ?_ ?_; (focus (first | omega | (simp; done) | (simp; omega))); intro g0 k0 s0)); (try (refine bone_elim hb (w.heap.size + 1) ?_ ?_; (focus (first | omega | (simp; done) | (simp; omega))); intro g1 k1 s1)); (try (refine bone_elim hb (w.heap.size + 1 + 1) ?_ ?_; (focus (first | omega | (simp; done) | (simp; omega))); intro g2 k2 s2)); (try (refine bone_elim hb (w.heap.size + 1 + 1 + 1) ?_ ?_; (focus (first | omega | (simp; done) | (simp; omega))); intro g3 k3 s3))) | (go_at_call 35; (with_reducible refine (spec_foGood _ _ _ _).mono ?_); rintro e w' ⟨rfl, hb⟩; obtain ⟨hc, hf, hk⟩ := bcell hb; have hz := hb.size; (try simp at hz); (try simp only [World.size_alloc] at hc hf hk); (try (refine bone_elim hb (w.heap.size) ?_ ?_; (focus (first | omega | (simp; done) | (simp; omega))); intro g0 k0 s0)); (try (refine bone_elim hb (w.heap.size + 1) ?_ ?_; (focus (first | omega | (simp; done) | (simp; omega))); intro g1 k1 s1)); (try (refine bone_elim hb (w.heap.size + 1 + 1) ?_ ?_; (focus (first | omega | (simp; done) | (simp; omega))); intro g2 k2 s2)); (try (refine bone_elim hb (w.heap.size + 1 + 1 + 1) ?_ ?_; (focus (first | omega | (simp; done) | (simp; omega))); intro g3 k3 s3))))
    simp [bodyPost, results, Try.results17, go_sem, *]
    exact (by repeat (first | exact Below.refl _ _ | assumption | refine Below.drew ?_ | refine Below.alloc ?_ (by first | omega | (simp; done) | (simp; omega)) _ | refine Below.setCell ?_ (by first | omega | (simp; done) | (simp; omega)) _ | (refine Below.trans ?_ (Below.mono (by assumption) (by first | omega | (simp; done) | (simp; omega))))))

theorem impl_FixedForm_yes (p q r s : Int) (w : World) (hd : fixedB p q r s = true) :
    Calls Try.prog 19 #[.agg #[.int .i64 p, .int .i64 q, .int .i64 r, .int .i64 s]] w fun e w' => e = .returned (.tuple #[.agg #[.int .i64 r, .int .i64 (wrap64 (s - p)), .int .i64 (wrap64 (-q))], .bool true]) ∧ Below w.heap.size w w' := by
  obtain ⟨h1, h2⟩ : properB p q r s = true ∧ (num r && num (wrap64 (s - p)) && num (wrap64 (-q))) = true := by simpa [fixedB] using hd
  clear hd
  go_enter Try.func19, Try.ntmps19
  go_wp2_with (first | (go_at_call 37; (with_reducible refine (impl_isProper _ _ _ _ _).mono ?_); rintro e w' ⟨rfl, hb⟩; obtain ⟨hc, hf, hk⟩ := bcell hb; have hz := hb.size; (try simp at hz); (try simp only [World.size_alloc] at hc hf hk); (try (refine bone_elim hb (w.heap.size) ?_ ?_; (focus (first | omega | (simp; done) | (simp; omega))); intro g0 k0 s0)); (try (refine bone_elim hb (w.heap.size + 1) ?_ ?_; (focus (first | omega | (simp; done) | (simp; omega))); intro g1 k1 s1)); (try (refine bone_elim hb (w.heap.size + 1 + 1) ?_ ?_; (focus (first | omega | (simp; done) | (simp; omega))); intro g2 k2 s2)); (try (refine bone_elim hb (w.heap.size + 1 + 1 + 1) ?_ ?_; (focus (first | omega | (simp; done) | (simp; omega))); intro g3 k3 s3))) | (go_at_call 38; (with_reducible refine (impl_IsForm _ _ _ _).mono ?_); rintro e w' ⟨rfl, hb⟩; obtain ⟨hc, hf, hk⟩ := bcell hb; have hz := hb.size; (try simp at hz); (try simp only [World.size_alloc] at hc hf hk); (try (refine bone_elim hb (w.heap.size) ?_ ?_; (focus (first | omega | (simp; done) | (simp; omega))); intro g0 k0 s0)); (try (refine bone_elim hb (w.heap.size + 1) ?_ ?_; (focus (first | omega | (simp; done) | (simp; omega))); intro g1 k1 s1)); (try (refine bone_elim hb (w.heap.size + 1 + 1) ?_ ?_; (focus (first | omega | (simp; done) | (simp; omega))); intro g2 k2 s2)); (try (refine bone_elim hb (w.heap.size + 1 + 1 + 1) ?_ ?_; (focus (first | omega | (simp; done) | (simp; omega))); intro g3 k3 s3))))
  simp [bodyPost, results, Try.results19, go_sem, *]
  exact (by repeat (first | exact Below.refl _ _ | assumption | refine Below.drew ?_ | refine Below.alloc ?_ (by first | omega | (simp; done) | (simp; omega)) _ | refine Below.setCell ?_ (by first | omega | (simp; done) | (simp; omega)) _ | (refine Below.trans ?_ (Below.mono (by assumption) (by first | omega | (simp; done) | (simp; omega))))))

theorem impl_FixedForm_no (p q r s : Int) (w : World) (hd : fixedB p q r s = false) :
    Calls Try.prog 19 #[.agg #[.int .i64 p, .int .i64 q, .int .i64 r, .int .i64 s]] w fun e w' => e = .returned (.tuple #[.agg #[.int .i64 0, .int .i64 0, .int .i64 0], .bool false]) ∧ Below w.heap.size w w' := by
  have h3 := fixedB_false hd
  clear hd
  rcases h3 with h3 | ⟨h3, h4⟩
  all_goals
    go_enter Try.func19, Try.ntmps19
    go_wp2_with (first | (go_at_call 37; (with_reducible refine (impl_isProper _ _ _ _ _).mono ?_); rintro e w' ⟨rfl, hb⟩; obtain ⟨hc, hf, hk⟩ := bcell hb; have hz := hb.size; (try simp at hz); (try simp only [World.size_alloc] at hc hf hk); (try (refine bone_elim hb (w.heap.size) ?_ ?_; (focus (first | omega | (simp; done) | (simp; omega))); intro g0 k0 s0)); (try (refine bone_elim hb (w.heap.size + 1) ?_ ?_; (focus (first | omega | (simp; done) | (simp; omega))); intro g1 k1 s1)); (try (refine bone_elim hb (w.heap.size + 1 + 1) ?_ ?_; (focus (first | omega | (simp; done) | (simp; omega))); intro g2 k2 s2)); (try (refine bone_elim hb (w.heap.size + 1 + 1 + 1) ?_ ?_; (focus (first | omega | (simp; done) | (simp; omega))); intro g3 k3 s3))) | (go_at_call 38; (with_reducible refine (impl_IsForm _ _ _ _).mono ?_); rintro e w' ⟨rfl, hb⟩; obtain ⟨hc, hf, hk⟩ := bcell hb; have hz := hb.size; (try simp at hz); (try simp only [World.size_alloc] at hc hf hk); (try (refine bone_elim hb (w.heap.size) ?_ ?_; (focus (first | omega | (simp; done) | (simp; omega))); intro g0 k0 s0)); (try (refine bone_elim hb (w.heap.size + 1) ?_ ?_; (focus (first | omega | (simp; done) | (simp; omega))); intro g1 k1 s1)); (try (refine bone_elim hb (w.heap.size + 1 + 1) ?_ ?_; (focus (first | omega | (simp; done) | (simp; omega))); intro g2 k2 s2)); (try (refine bone_elim hb (w.heap.size + 1 + 1 + 1) ?_ ?_; (focus (first | omega | (simp; done) | (simp; omega))); intro g3 k3 s3))))
    simp [bodyPost, results, Try.results19, go_sem, *]
    exact (by repeat (first | exact Below.refl _ _ | assumption | refine Below.drew ?_ | refine Below.alloc ?_ (by first | omega | (simp; done) | (simp; omega)) _ | refine Below.setCell ?_ (by first | omega | (simp; done) | (simp; omega)) _ | (refine Below.trans ?_ (Below.mono (by assumption) (by first | omega | (simp; done) | (simp; omega))))))


theorem laws_eqForm (a b c a' b' c' : Int) (w : World) :
    Calls Try.prog 20 #[.agg #[.int .i64 a, .int .i64 b, .int .i64 c], .agg #[.int .i64 a', .int .i64 b', .int .i64 c']] w fun e w' => e = .returned (.bool (a == a' && b == b' && c == c')) ∧ Below w.heap.size w w' := by
  go_enter Try.func20, Try.ntmps20
  go_wp2
  all_goals go_ret
  all_goals exact ⟨ret_bool (by rw [Bool.eq_iff_iff]; first | (simp; done) | (simp; omega) | (simp [*]; done) | (simp [*]; omega) | (simp_all; done) | (simp_all; omega) | (simp_all; intros; omega)), (by repeat (first | exact Below.refl _ _ | assumption | refine Below.drew ?_ | refine Below.alloc ?_ (by first | omega | (simp; done) | (simp; omega)) _ | refine Below.setCell ?_ (by first | omega | (simp; done) | (simp; omega)) _ | (refine Below.trans ?_ (Below.mono (by assumption) (by first | omega | (simp; done) | (simp; omega))))))⟩

theorem law_FixedForm_yes (p q r s : Int) (w : World) (hd : fixedB p q r s = true) :
    Calls Try.prog 6 #[.agg #[.int .i64 p, .int .i64 q, .int .i64 r, .int .i64 s]] w fun e w' => e = .returned (.bool (true)) ∧ Below w.heap.size w w' := by
  go_enter Try.func6, Try.ntmps6
  go_wp2_with fail
  (with_reducible refine (laws_toMatrix _ _ _ _ _).mono ?_)
  rintro e w1 ⟨rfl, hb1⟩
  have hz1 := hb1.size
  (try simp at hz1)
  (refine bone_elim hb1 (w.heap.size) ?_ ?_; (focus (first | omega | (simp; done) | (simp; omega))); intro g1_0 k1_0 s1_0)
  go_wp2_with fail
  (with_reducible refine (spec_FixedForm_yes _ _ _ _ _ hd).mono ?_)
  rintro e w2 ⟨rfl, hb2⟩
  have hz2 := hb2.size
  (try simp at hz2)
  (refine bone_elim hb2 (w.heap.size) ?_ ?_; (focus (first | omega | (simp; done) | (simp; omega))); intro g2_0 k2_0 s2_0)
  go_wp2_with fail
  (with_reducible refine (laws_toMatrix _ _ _ _ _).mono ?_)
  rintro e w3 ⟨rfl, hb3⟩
  have hz3 := hb3.size
  (try simp at hz3)
  (refine bone_elim hb3 (w.heap.size) ?_ ?_; (focus (first | omega | (simp; done) | (simp; omega))); intro g3_0 k3_0 s3_0)
  (refine bone_elim hb3 (w2.heap.size) ?_ ?_; (focus (first | omega | (simp; done) | (simp; omega))); intro g3_1 k3_1 s3_1)
  go_wp2_with fail
  (with_reducible refine (impl_FixedForm_yes _ _ _ _ _ hd).mono ?_)
  rintro e w4 ⟨rfl, hb4⟩
  have hz4 := hb4.size
  (try simp at hz4)
  (refine bone_elim hb4 (w.heap.size) ?_ ?_; (focus (first | omega | (simp; done) | (simp; omega))); intro g4_0 k4_0 s4_0)
  (refine bone_elim hb4 (w2.heap.size) ?_ ?_; (focus (first | omega | (simp; done) | (simp; omega))); intro g4_1 k4_1 s4_1)
  go_wp2_with fail
  (with_reducible refine (laws_eqForm _ _ _ _ _ _ _).mono ?_)
  rintro e w5 ⟨rfl, hb5⟩
  have hz5 := hb5.size
  (try simp at hz5)
  (refine bone_elim hb5 (w.heap.size) ?_ ?_; (focus (first | omega | (simp; done) | (simp; omega))); intro g5_0 k5_0 s5_0)
  (refine bone_elim hb5 (w2.heap.size) ?_ ?_; (focus (first | omega | (simp; done) | (simp; omega))); intro g5_1 k5_1 s5_1)
  go_wp2
  go_ret
  exact ⟨ret_bool rfl, (by repeat (first | exact Below.refl _ _ | assumption | refine Below.drew ?_ | refine Below.alloc ?_ (by first | omega | (simp; done) | (simp; omega)) _ | refine Below.setCell ?_ (by first | omega | (simp; done) | (simp; omega)) _ | (refine Below.trans ?_ (Below.mono (by assumption) (by first | omega | (simp; done) | (simp; omega))))))⟩

theorem law_FixedForm_no (p q r s : Int) (w : World) (hd : fixedB p q r s = false) :
    Calls Try.prog 6 #[.agg #[.int .i64 p, .int .i64 q, .int .i64 r, .int .i64 s]] w fun e w' => e = .returned (.bool (true)) ∧ Below w.heap.size w w' := by
  go_enter Try.func6, Try.ntmps6
  go_wp2_with fail
  (with_reducible refine (laws_toMatrix _ _ _ _ _).mono ?_)
  rintro e w1 ⟨rfl, hb1⟩
  have hz1 := hb1.size
  (try simp at hz1)
  (refine bone_elim hb1 (w.heap.size) ?_ ?_; (focus (first | omega | (simp; done) | (simp; omega))); intro g1_0 k1_0 s1_0)
  go_wp2_with fail
  (with_reducible refine (spec_FixedForm_no _ _ _ _ _ hd).mono ?_)
  rintro e w2 ⟨rfl, hb2⟩
  have hz2 := hb2.size
  (try simp at hz2)
  (refine bone_elim hb2 (w.heap.size) ?_ ?_; (focus (first | omega | (simp; done) | (simp; omega))); intro g2_0 k2_0 s2_0)
  go_wp2_with fail
  (with_reducible refine (laws_toMatrix _ _ _ _ _).mono ?_)
  rintro e w3 ⟨rfl, hb3⟩
  have hz3 := hb3.size
  (try simp at hz3)
  (refine bone_elim hb3 (w.heap.size) ?_ ?_; (focus (first | omega | (simp; done) | (simp; omega))); intro g3_0 k3_0 s3_0)
  (refine bone_elim hb3 (w2.heap.size) ?_ ?_; (focus (first | omega | (simp; done) | (simp; omega))); intro g3_1 k3_1 s3_1)
  go_wp2_with fail
  (with_reducible refine (impl_FixedForm_no _ _ _ _ _ hd).mono ?_)
  rintro e w4 ⟨rfl, hb4⟩
  have hz4 := hb4.size
  (try simp at hz4)
  (refine bone_elim hb4 (w.heap.size) ?_ ?_; (focus (first | omega | (simp; done) | (simp; omega))); intro g4_0 k4_0 s4_0)
  (refine bone_elim hb4 (w2.heap.size) ?_ ?_; (focus (first | omega | (simp; done) | (simp; omega))); intro g4_1 k4_1 s4_1)
  go_wp2_with fail
  (with_reducible refine (laws_eqForm _ _ _ _ _ _ _).mono ?_)
  rintro e w5 ⟨rfl, hb5⟩
  have hz5 := hb5.size
  (try simp at hz5)
  (refine bone_elim hb5 (w.heap.size) ?_ ?_; (focus (first | omega | (simp; done) | (simp; omega))); intro g5_0 k5_0 s5_0)
  (refine bone_elim hb5 (w2.heap.size) ?_ ?_; (focus (first | omega | (simp; done) | (simp; omega))); intro g5_1 k5_1 s5_1)
  go_wp2
  go_ret
  exact ⟨ret_bool rfl, (by repeat (first | exact Below.refl _ _ | assumption | refine Below.drew ?_ | refine Below.alloc ?_ (by first | omega | (simp; done) | (simp; omega)) _ | refine Below.setCell ?_ (by first | omega | (simp; done) | (simp; omega)) _ | (refine Below.trans ?_ (Below.mono (by assumption) (by first | omega | (simp; done) | (simp; omega))))))⟩

theorem law_FixedForm (p q r s : Int) (w : World) :
    Calls Try.prog 6 #[.agg #[.int .i64 p, .int .i64 q, .int .i64 r, .int .i64 s]] w fun e w' => e = .returned (.bool (true)) ∧ Below w.heap.size w w' := by
  cases hd : fixedB p q r s with
  | true => exact law_FixedForm_yes p q r s w hd
  | false => exact law_FixedForm_no p q r s w hd

end Go.Proofs.Ytindcbcafmgfdaa
