/- Matrix powers and conjugates: the laws' walks. -/
import Derived.Test.YtcldombcamjgaaaB1
namespace Go.Proofs.Ytcldombcamjgaaa
open Go.RowKit

theorem laws_eqMatrix (a b c d a' b' c' d' : Int) (w : World) :
    Calls Try.prog 15 #[.agg #[.int .i64 a, .int .i64 b, .int .i64 c, .int .i64 d], .agg #[.int .i64 a', .int .i64 b', .int .i64 c', .int .i64 d']] w fun e w' => e = .returned (.bool (a == a' && b == b' && c == c' && d == d')) ∧ Below w.heap.size w w' := by
  go_enter Try.func15, Try.ntmps15
  go_wp2
  all_goals go_ret
  all_goals exact ⟨ret_bool (by rw [Bool.eq_iff_iff]; first | (simp; done) | (simp; omega) | (simp [*]; done) | (simp [*]; omega) | (simp_all; done) | (simp_all; omega) | (simp_all; intros; omega)), (by repeat (first | (with_reducible exact Below.refl _ _) | (with_reducible assumption) | (with_reducible refine Below.drew ?_) | ((with_reducible refine bl_alloc ?_ ?_); (focus (first | omega | (simp; done) | (simp; omega)))) | ((with_reducible refine bl_set ?_ ?_); (focus (first | omega | (simp; done) | (simp; omega)))) | ((with_reducible refine bl_trans (by with_reducible assumption) ?_ ?_); (focus (first | omega | (simp; done) | (simp; omega))))))⟩

def powOk (m : Mat) (k : Int) : Bool := properB m.p m.q m.r m.s && decide (0 ≤ k ∧ k ≤ 20)
theorem powOk_no {m : Mat} {k : Int} (h : powOk m k = false) : properB m.p m.q m.r m.s = false ∨ properB m.p m.q m.r m.s = true ∧ decide (0 ≤ k ∧ k ≤ 20) = false ∧ (k < 0 ∧ (decide (0 ≤ k) = false ∧ decide (k < 0) = true) ∨ (0 ≤ k ∧ ¬ k ≤ 20 ∧ decide (k ≤ 20) = false ∧ decide (k < 0) = false ∧ decide (20 < k) = true)) := by
  cases h1 : properB m.p m.q m.r m.s
  · exact .inl rfl
  · refine .inr ⟨rfl, ?_⟩; rw [powOk, h1] at h; simp at h; simp; omega

theorem spec_MatrixPower_no (m : Mat) (k : Int) (w : World) (hd : powOk m k = false) :
    Calls Try.prog 12 #[.agg #[.int .i64 m.p, .int .i64 m.q, .int .i64 m.r, .int .i64 m.s], .int .i64 k] w fun e w' => e = .returned (.tuple #[.agg #[.int .i64 0, .int .i64 0, .int .i64 0, .int .i64 0], .bool false]) ∧ Below w.heap.size w w' := by
  rcases powOk_no hd with h | ⟨h, h0, ⟨h', h1, h2⟩ | ⟨h', h3, h4, h5, h6⟩⟩
  all_goals clear hd
  all_goals
    go_enter Try.func12, Try.ntmps12
    go_wp2_with (first | (go_at_call 37; (with_reducible refine (spec_moProper _ _ _ _ _).mono ?_); rintro e w' ⟨rfl, hb⟩; obtain ⟨hc, hf, hk⟩ := bcell hb; have hz := hb.size; (try simp at hz); (try simp only [World.size_alloc] at hc hf hk); (try (refine bone_elim hb (w.heap.size) ?_ ?_; (focus (first | omega | (simp; done) | (simp; omega))); intro g0 k0 s0)); (try (refine bone_elim hb (w.heap.size + 1) ?_ ?_; (focus (first | omega | (simp; done) | (simp; omega))); intro g1 k1 s1)); (try (refine bone_elim hb (w.heap.size + 1 + 1) ?_ ?_; (focus (first | omega | (simp; done) | (simp; omega))); intro g2 k2 s2)); (try (refine bone_elim hb (w.heap.size + 1 + 1 + 1) ?_ ?_; (focus (first | omega | (simp; done) | (simp; omega))); intro g3 k3 s3)); (try (with_reducible refine bone_elim hb _ sa ?_; intro ga ka sa)); (try (with_reducible refine bone_alloc hb ?_; intro ga ka sa))) | (go_at_call 38; (with_reducible refine (spec_l1In _ _ _ _).mono ?_); rintro e w' ⟨rfl, rfl⟩))
    all_goals (try (exfalso; omega))
    all_goals simp [bodyPost, results, Try.results12, go_sem, *]
    all_goals exact (by repeat (first | (with_reducible exact Below.refl _ _) | (with_reducible assumption) | (with_reducible refine Below.drew ?_) | ((with_reducible refine bl_alloc ?_ ?_); (focus (first | omega | (simp; done) | (simp; omega)))) | ((with_reducible refine bl_set ?_ ?_); (focus (first | omega | (simp; done) | (simp; omega)))) | ((with_reducible refine bl_trans (by with_reducible assumption) ?_ ?_); (focus (first | omega | (simp; done) | (simp; omega))))))

theorem impl_MatrixPower_no (m : Mat) (k : Int) (w : World) (hd : powOk m k = false) :
    Calls Try.prog 14 #[.agg #[.int .i64 m.p, .int .i64 m.q, .int .i64 m.r, .int .i64 m.s], .int .i64 k] w fun e w' => e = .returned (.tuple #[.agg #[.int .i64 0, .int .i64 0, .int .i64 0, .int .i64 0], .bool false]) ∧ Below w.heap.size w w' := by
  rcases powOk_no hd with h | ⟨h, h0, ⟨h', h1, h2⟩ | ⟨h', h3, h4, h5, h6⟩⟩
  all_goals clear hd
  all_goals
    go_enter Try.func14, Try.ntmps14
    go_wp2_with (first | (go_at_call 41; (with_reducible refine (impl_isProper _ _ _ _ _).mono ?_); rintro e w' ⟨rfl, hb⟩; obtain ⟨hc, hf, hk⟩ := bcell hb; have hz := hb.size; (try simp at hz); (try simp only [World.size_alloc] at hc hf hk); (try (refine bone_elim hb (w.heap.size) ?_ ?_; (focus (first | omega | (simp; done) | (simp; omega))); intro g0 k0 s0)); (try (refine bone_elim hb (w.heap.size + 1) ?_ ?_; (focus (first | omega | (simp; done) | (simp; omega))); intro g1 k1 s1)); (try (refine bone_elim hb (w.heap.size + 1 + 1) ?_ ?_; (focus (first | omega | (simp; done) | (simp; omega))); intro g2 k2 s2)); (try (refine bone_elim hb (w.heap.size + 1 + 1 + 1) ?_ ?_; (focus (first | omega | (simp; done) | (simp; omega))); intro g3 k3 s3)); (try (with_reducible refine bone_elim hb _ sa ?_; intro ga ka sa)); (try (with_reducible refine bone_alloc hb ?_; intro ga ka sa))))
    all_goals (try (exfalso; omega))
    all_goals simp [bodyPost, results, Try.results14, go_sem, *]
    all_goals exact (by repeat (first | (with_reducible exact Below.refl _ _) | (with_reducible assumption) | (with_reducible refine Below.drew ?_) | ((with_reducible refine bl_alloc ?_ ?_); (focus (first | omega | (simp; done) | (simp; omega)))) | ((with_reducible refine bl_set ?_ ?_); (focus (first | omega | (simp; done) | (simp; omega)))) | ((with_reducible refine bl_trans (by with_reducible assumption) ?_ ?_); (focus (first | omega | (simp; done) | (simp; omega))))))


theorem law_MatrixPower_yes (m : Mat) (k : Int) (w : World) (hd : properB m.p m.q m.r m.s = true) (h1 : 0 ≤ k) (h2 : k ≤ 20) :
    Calls Try.prog 3 #[.agg #[.int .i64 m.p, .int .i64 m.q, .int .i64 m.r, .int .i64 m.s], .int .i64 k] w fun e w' => e = .returned (.bool (true)) ∧ Below w.heap.size w w' := by
  go_enter Try.func3, Try.ntmps3
  go_wp2_with fail
  (with_reducible refine (laws_toMatrix _ _ _ _ _).mono ?_)
  rintro e w1 ⟨rfl, hb1⟩
  have hz1 := hb1.size
  (try simp at hz1)
  (refine bone_elim hb1 (w.heap.size) ?_ ?_; (focus (first | omega | (simp; done) | (simp; omega))); intro g1_0 k1_0 s1_0)
  go_wp2_with fail
  (with_reducible refine (spec_MatrixPower_yes _ _ _ hd h1 h2).mono ?_)
  rintro e w2 ⟨rfl, hb2⟩
  have hz2 := hb2.size
  (try simp at hz2)
  (refine bone_elim hb2 (w.heap.size) ?_ ?_; (focus (first | omega | (simp; done) | (simp; omega))); intro g2_0 k2_0 s2_0)
  go_wp2_with fail
  (with_reducible refine (laws_toMatrix _ _ _ _ _).mono ?_)
  rintro e w3 ⟨rfl, hb3⟩
  have hz3 := hb3.size
  (try simp at hz3)
  (refine bone_elim hb3 (w.heap.size) ?_ ?_; (focus (first | omega | (simp; done) | (simp; omega))); intro g3_0 k3_0 s3_0)
  (refine bone_elim hb3 (w2.heap.size) ?_ ?_; (focus (first | omega | (simp; done) | (simp; omega))); intro g3_1 k3_1 s3_1)
  go_wp2_with fail
  (with_reducible refine (impl_MatrixPower_yes _ _ _ hd h1 h2).mono ?_)
  rintro e w4 ⟨rfl, hb4⟩
  have hz4 := hb4.size
  (try simp at hz4)
  (refine bone_elim hb4 (w.heap.size) ?_ ?_; (focus (first | omega | (simp; done) | (simp; omega))); intro g4_0 k4_0 s4_0)
  (refine bone_elim hb4 (w2.heap.size) ?_ ?_; (focus (first | omega | (simp; done) | (simp; omega))); intro g4_1 k4_1 s4_1)
  go_wp2_with fail
  (with_reducible refine (laws_eqMatrix _ _ _ _ _ _ _ _ _).mono ?_)
  rintro e w5 ⟨rfl, hb5⟩
  have hz5 := hb5.size
  (try simp at hz5)
  (refine bone_elim hb5 (w.heap.size) ?_ ?_; (focus (first | omega | (simp; done) | (simp; omega))); intro g5_0 k5_0 s5_0)
  (refine bone_elim hb5 (w2.heap.size) ?_ ?_; (focus (first | omega | (simp; done) | (simp; omega))); intro g5_1 k5_1 s5_1)
  go_wp2
  go_ret
  exact ⟨ret_bool rfl, (by repeat (first | (with_reducible exact Below.refl _ _) | (with_reducible assumption) | (with_reducible refine Below.drew ?_) | ((with_reducible refine bl_alloc ?_ ?_); (focus (first | omega | (simp; done) | (simp; omega)))) | ((with_reducible refine bl_set ?_ ?_); (focus (first | omega | (simp; done) | (simp; omega)))) | ((with_reducible refine bl_trans (by with_reducible assumption) ?_ ?_); (focus (first | omega | (simp; done) | (simp; omega))))))⟩

theorem law_MatrixPower_no (m : Mat) (k : Int) (w : World) (hd : powOk m k = false) :
    Calls Try.prog 3 #[.agg #[.int .i64 m.p, .int .i64 m.q, .int .i64 m.r, .int .i64 m.s], .int .i64 k] w fun e w' => e = .returned (.bool (true)) ∧ Below w.heap.size w w' := by
  go_enter Try.func3, Try.ntmps3
  go_wp2_with fail
  (with_reducible refine (laws_toMatrix _ _ _ _ _).mono ?_)
  rintro e w1 ⟨rfl, hb1⟩
  have hz1 := hb1.size
  (try simp at hz1)
  (refine bone_elim hb1 (w.heap.size) ?_ ?_; (focus (first | omega | (simp; done) | (simp; omega))); intro g1_0 k1_0 s1_0)
  go_wp2_with fail
  (with_reducible refine (spec_MatrixPower_no _ _ _ hd).mono ?_)
  rintro e w2 ⟨rfl, hb2⟩
  have hz2 := hb2.size
  (try simp at hz2)
  (refine bone_elim hb2 (w.heap.size) ?_ ?_; (focus (first | omega | (simp; done) | (simp; omega))); intro g2_0 k2_0 s2_0)
  go_wp2_with fail
  (with_reducible refine (laws_toMatrix _ _ _ _ _).mono ?_)
  rintro e w3 ⟨rfl, hb3⟩
  have hz3 := hb3.size
  (try simp at hz3)
  (refine bone_elim hb3 (w.heap.size) ?_ ?_; (focus (first | omega | (simp; done) | (simp; omega))); intro g3_0 k3_0 s3_0)
  (refine bone_elim hb3 (w2.heap.size) ?_ ?_; (focus (first | omega | (simp; done) | (simp; omega))); intro g3_1 k3_1 s3_1)
  go_wp2_with fail
  (with_reducible refine (impl_MatrixPower_no _ _ _ hd).mono ?_)
  rintro e w4 ⟨rfl, hb4⟩
  have hz4 := hb4.size
  (try simp at hz4)
  (refine bone_elim hb4 (w.heap.size) ?_ ?_; (focus (first | omega | (simp; done) | (simp; omega))); intro g4_0 k4_0 s4_0)
  (refine bone_elim hb4 (w2.heap.size) ?_ ?_; (focus (first | omega | (simp; done) | (simp; omega))); intro g4_1 k4_1 s4_1)
  go_wp2_with fail
  (with_reducible refine (laws_eqMatrix _ _ _ _ _ _ _ _ _).mono ?_)
  rintro e w5 ⟨rfl, hb5⟩
  have hz5 := hb5.size
  (try simp at hz5)
  (refine bone_elim hb5 (w.heap.size) ?_ ?_; (focus (first | omega | (simp; done) | (simp; omega))); intro g5_0 k5_0 s5_0)
  (refine bone_elim hb5 (w2.heap.size) ?_ ?_; (focus (first | omega | (simp; done) | (simp; omega))); intro g5_1 k5_1 s5_1)
  go_wp2
  go_ret
  exact ⟨ret_bool rfl, (by repeat (first | (with_reducible exact Below.refl _ _) | (with_reducible assumption) | (with_reducible refine Below.drew ?_) | ((with_reducible refine bl_alloc ?_ ?_); (focus (first | omega | (simp; done) | (simp; omega)))) | ((with_reducible refine bl_set ?_ ?_); (focus (first | omega | (simp; done) | (simp; omega)))) | ((with_reducible refine bl_trans (by with_reducible assumption) ?_ ?_); (focus (first | omega | (simp; done) | (simp; omega))))))⟩

theorem law_MatrixPower (p q r s k : Int) (w : World) :
    Calls Try.prog 3 #[.agg #[.int .i64 p, .int .i64 q, .int .i64 r, .int .i64 s], .int .i64 k] w fun e w' => e = .returned (.bool (true)) ∧ Below w.heap.size w w' := by
  cases hd : powOk ⟨p, q, r, s⟩ k with
  | true =>
    obtain ⟨h0, h1, h2⟩ : properB p q r s = true ∧ 0 ≤ k ∧ k ≤ 20 := by simpa [powOk] using hd
    exact law_MatrixPower_yes ⟨p, q, r, s⟩ k w h0 h1 h2
  | false => exact law_MatrixPower_no ⟨p, q, r, s⟩ k w hd

end Go.Proofs.Ytcldombcamjgaaa
