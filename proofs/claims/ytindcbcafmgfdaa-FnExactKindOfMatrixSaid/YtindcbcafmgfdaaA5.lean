/- The walks of the law over kinds of matrices. -/
import Derived.Test.YtindcbcafmgfdaaA2
import Derived.Deep.RegionWith
namespace Go.Proofs.Ytindcbcafmgfdaa
open Go.RowKit

/-! ### kinds -/
def kindI (p q r s : Int) : Int := if q = 0 ∧ r = 0 then 1 else if (wrap64 (p + s)).natAbs < 2 then 2 else if (wrap64 (p + s)).natAbs = 2 then 3 else 4

theorem spec_moKind (p q r s : Int) (w : World) (h1 : -1000000 ≤ p) (h2 : p ≤ 1000000) (h3 : -1000000 ≤ s) (h4 : s ≤ 1000000) :
    Calls Try.prog 43 #[.agg #[.int .i64 p, .int .i64 q, .int .i64 r, .int .i64 s]] w fun e w' => e = .returned (.int .i64 (kindI p q r s)) ∧ Below w.heap.size w w' := by
  have hw : wrap64 (p + s) = p + s := wrap64_small (by omega) (by omega)
  have hk : kindI p q r s = if q = 0 ∧ r = 0 then 1 else if (p + s).natAbs < 2 then 2 else if (p + s).natAbs = 2 then 3 else 4 := by rw [kindI, hw]
  have HK := Lib.hid hk
  clear hk hw
  generalize kindI p q r s = k at *
  go_enter Try.func43, Try.ntmps43
  go_wp2_with (first | (go_at_call 57; (with_reducible refine (spec_l1Abs _ _ (by omega) (by omega)).mono ?_); rintro e w' ⟨rfl, rfl⟩))
  all_goals go_ret
  all_goals exact ⟨ret_int (by rw [HK.out]; split <;> simp_all <;> omega), (by repeat (first | (with_reducible exact Below.refl _ _) | (with_reducible assumption) | (with_reducible refine Below.drew ?_) | ((with_reducible refine bl_alloc ?_ ?_); (focus (first | omega | (simp; done) | (simp; omega)))) | ((with_reducible refine bl_set ?_ ?_); (focus (first | omega | (simp; done) | (simp; omega)))) | ((with_reducible refine bl_trans (by with_reducible assumption) ?_ ?_); (focus (first | omega | (simp; done) | (simp; omega))))))⟩

theorem properB_num {p q r s : Int} (h : properB p q r s = true) : (-1000000 ≤ p ∧ p ≤ 1000000) ∧ (-1000000 ≤ q ∧ q ≤ 1000000) ∧ (-1000000 ≤ r ∧ r ≤ 1000000) ∧ (-1000000 ≤ s ∧ s ≤ 1000000) := by
  simp [properB, num] at h; omega

theorem detW_eq {p q r s : Int} (h : properB p q r s = true) : p * s - q * r = 1 := by
  obtain ⟨⟨a1, a2⟩, ⟨b1, b2⟩, ⟨c1, c2⟩, ⟨d1, d2⟩⟩ := properB_num h
  have h1 := mul_bd a1 a2 d1 d2
  have h2 := mul_bd b1 b2 c1 c2
  have h3 : detW p q r s = 1 := by simp [properB] at h; exact h.2
  rw [detW, wrap64_small (n := p * s) (by omega) (by omega), wrap64_small (n := q * r) (by omega) (by omega), wrap64_small (by omega) (by omega)] at h3
  exact h3
theorem unit_mul {p s : Int} (h : p * s = 1) : p = 1 ∧ s = 1 ∨ p = -1 ∧ s = -1 := by
  have h1 : p ∣ 1 := ⟨s, h.symm⟩
  have h2 : p.natAbs = 1 := Nat.dvd_one.1 (by simpa using Int.natAbs_dvd_natAbs.2 h1)
  rcases (by omega : p = 1 ∨ p = -1) with e | e
  · subst e; omega
  · subst e; omega
theorem central_iff {p q r s : Int} (h : properB p q r s = true) (hq : q = 0 ∧ r = 0) : (p == 1 && (q == 0 && (r == 0 && s == 1))) = true ∨ (p == -1 && (q == 0 && (r == 0 && s == -1))) = true := by
  have h1 := detW_eq h
  obtain ⟨rfl, rfl⟩ := hq
  rcases unit_mul (p := p) (s := s) (by omega) with ⟨rfl, rfl⟩ | ⟨rfl, rfl⟩ <;> simp

def traceKind (t : Int) : Int := if t.natAbs < 2 then 2 else if t.natAbs = 2 then 3 else 4

theorem kindI_eq {p q r s : Int} (h : properB p q r s = true) (c1 c2 : Bool) (h1 : (p == 1 && (q == 0 && (r == 0 && s == 1))) = c1) (h2 : (p == -1 && (q == 0 && (r == 0 && s == -1))) = c2) :
    kindI p q r s = if (c1 || c2) = true then 1 else traceKind (p + s) := by
  have hnum := properB_num h
  have hw : wrap64 (p + s) = p + s := wrap64_small (by omega) (by omega)
  by_cases hq : q = 0 ∧ r = 0
  · have := central_iff h hq
    subst h1 h2
    rw [kindI, if_pos hq, if_pos (by rcases this with h | h <;> simp [h])]
  · have hb : ¬ (c1 || c2) = true := by subst h1 h2; simp; omega
    rw [kindI, if_neg hq, hw, if_neg hb, traceKind]

theorem absI_trace {t : Int} (h1 : -2000000 ≤ t) (h2 : t ≤ 2000000) : absI t = t.natAbs := absI_eq (by omega)

theorem tkA {t : Int} (ha : absI t = t.natAbs) (h : absI t < 2) : 2 = traceKind t := by rw [traceKind, if_pos (by omega)]
theorem tkB {t : Int} (ha : absI t = t.natAbs) (h : ¬ absI t < 2) (h2 : absI t = 2) : 3 = traceKind t := by rw [traceKind, if_neg (by omega), if_pos (by omega)]
theorem tkC {t : Int} (ha : absI t = t.natAbs) (h : ¬ absI t < 2) (h2 : ¬ absI t = 2) : 4 = traceKind t := by rw [traceKind, if_neg (by omega), if_neg (by omega)]

set_option maxHeartbeats 2000000 in
theorem impl_kind1 (p q r s : Int) (w : World) (c : Bool) (hc : c = true) (hd : properB p q r s = true) (h : (p == 1 && (q == 0 && (r == 0 && s == 1))) = true) (h' : true = false → (p == -1 && (q == 0 && (r == 0 && s == -1))) = c) :
    Calls Try.prog 44 #[.agg #[.int .i64 p, .int .i64 q, .int .i64 r, .int .i64 s]] w fun e w' => e = .returned (.int .i64 (kindI p q r s)) ∧ Below w.heap.size w w' := by
  have hf := kindI_eq hd _ _ h rfl
  obtain ⟨⟨a1, a2⟩, ⟨b1, b2⟩, ⟨c1, c2⟩, ⟨d1, d2⟩⟩ := properB_num hd
  have ha := absI_trace (t := p + s) (by omega) (by omega)
  simp only [h', Bool.true_or, Bool.or_true, Bool.or_false, if_true, Bool.false_eq_true, if_false] at hf h'
  have HF := Lib.hid hf
  have HA := Lib.hid ha
  clear hd hf ha hc
  generalize kindI p q r s = k at *
  go_enter Try.func44, Try.ntmps44
  go_wp2_with (first | (go_at_call 58; (with_reducible refine (impl_abs _ _ (by omega) (by omega)).mono ?_); rintro e w' ⟨rfl, rfl⟩) | (go_at_call 59; (with_reducible refine (impl_trace _ _ _ _ _ (by omega) (by omega) (by omega) (by omega)).mono ?_); rintro e w' ⟨rfl, hb⟩; obtain ⟨hc, hf, hk⟩ := bcell hb; have hz := hb.size; (try simp at hz); (try simp only [World.size_alloc] at hc hf hk); (try (refine bone_elim hb (w.heap.size) ?_ ?_; (focus (first | omega | (simp; done) | (simp; omega))); intro g0 k0 s0)); (try (refine bone_elim hb (w.heap.size + 1) ?_ ?_; (focus (first | omega | (simp; done) | (simp; omega))); intro g1 k1 s1)); (try (refine bone_elim hb (w.heap.size + 1 + 1) ?_ ?_; (focus (first | omega | (simp; done) | (simp; omega))); intro g2 k2 s2)); (try (refine bone_elim hb (w.heap.size + 1 + 1 + 1) ?_ ?_; (focus (first | omega | (simp; done) | (simp; omega))); intro g3 k3 s3))))

  go_upto_region 2 with fail
  go_cut [7] (fun s7 wx => s7 = .bool true ∧ Below w.heap.size w wx)
  case first =>
    go_region_with (first | (go_at_call 60; (with_reducible refine (impl_one _).mono ?_); rintro e w' ⟨rfl, hb⟩; obtain ⟨hc, hf, hk⟩ := bcell hb; have hz := hb.size; (try simp at hz); (try simp only [World.size_alloc] at hc hf hk); (try (refine bone_elim hb (w.heap.size) ?_ ?_; (focus (first | omega | (simp; done) | (simp; omega))); intro g0 k0 s0)); (try (refine bone_elim hb (w.heap.size + 1) ?_ ?_; (focus (first | omega | (simp; done) | (simp; omega))); intro g1 k1 s1)); (try (refine bone_elim hb (w.heap.size + 1 + 1) ?_ ?_; (focus (first | omega | (simp; done) | (simp; omega))); intro g2 k2 s2)); (try (refine bone_elim hb (w.heap.size + 1 + 1 + 1) ?_ ?_; (focus (first | omega | (simp; done) | (simp; omega))); intro g3 k3 s3))) | (go_at_call 61; (with_reducible refine (impl_negative_one _).mono ?_); rintro e w' ⟨rfl, hb⟩; obtain ⟨hc, hf, hk⟩ := bcell hb; have hz := hb.size; (try simp at hz); (try simp only [World.size_alloc] at hc hf hk); (try (refine bone_elim hb (w.heap.size) ?_ ?_; (focus (first | omega | (simp; done) | (simp; omega))); intro g0 k0 s0)); (try (refine bone_elim hb (w.heap.size + 1) ?_ ?_; (focus (first | omega | (simp; done) | (simp; omega))); intro g1 k1 s1)); (try (refine bone_elim hb (w.heap.size + 1 + 1) ?_ ?_; (focus (first | omega | (simp; done) | (simp; omega))); intro g2 k2 s2)); (try (refine bone_elim hb (w.heap.size + 1 + 1 + 1) ?_ ?_; (focus (first | omega | (simp; done) | (simp; omega))); intro g3 k3 s3))))
    all_goals (go_wp2_with fail; go_meet; exact ⟨by first | rfl | rw [h' rfl], (by repeat (first | (with_reducible exact Below.refl _ _) | (with_reducible assumption) | (with_reducible refine Below.drew ?_) | ((with_reducible refine bl_alloc ?_ ?_); (focus (first | omega | (simp; done) | (simp; omega)))) | ((with_reducible refine bl_set ?_ ?_); (focus (first | omega | (simp; done) | (simp; omega)))) | ((with_reducible refine bl_trans (by with_reducible assumption) ?_ ?_); (focus (first | omega | (simp; done) | (simp; omega))))))⟩)
  case rest =>
    obtain ⟨rfl, hbx⟩ := hcut
    go_wp2
    all_goals go_ret
    all_goals exact ⟨ret_int (by rw [HF.out]; first | done | exact tkA HA.out (by omega) | exact tkB HA.out (by omega) (by simp_all; done) | exact tkB HA.out (by omega) (by omega) | exact tkC HA.out (by omega) (by omega) | exact tkC HA.out (by omega) (by simp_all; done)), (by repeat (first | (with_reducible exact Below.refl _ _) | (with_reducible assumption) | (with_reducible refine Below.drew ?_) | ((with_reducible refine bl_alloc ?_ ?_); (focus (first | omega | (simp; done) | (simp; omega)))) | ((with_reducible refine bl_set ?_ ?_); (focus (first | omega | (simp; done) | (simp; omega)))) | ((with_reducible refine bl_trans (by with_reducible assumption) ?_ ?_); (focus (first | omega | (simp; done) | (simp; omega))))))⟩

set_option maxHeartbeats 2000000 in
theorem impl_kind2 (p q r s : Int) (w : World) (c : Bool) (hc : c = true) (hd : properB p q r s = true) (h : (p == 1 && (q == 0 && (r == 0 && s == 1))) = false) (h' : false = false → (p == -1 && (q == 0 && (r == 0 && s == -1))) = true) :
    Calls Try.prog 44 #[.agg #[.int .i64 p, .int .i64 q, .int .i64 r, .int .i64 s]] w fun e w' => e = .returned (.int .i64 (kindI p q r s)) ∧ Below w.heap.size w w' := by
  have hf := kindI_eq hd _ _ h rfl
  obtain ⟨⟨a1, a2⟩, ⟨b1, b2⟩, ⟨c1, c2⟩, ⟨d1, d2⟩⟩ := properB_num hd
  have ha := absI_trace (t := p + s) (by omega) (by omega)
  simp only [h', Bool.true_or, Bool.or_true, Bool.or_false, if_true, Bool.false_eq_true, if_false] at hf h'
  have HF := Lib.hid hf
  have HA := Lib.hid ha
  clear hd hf ha hc
  generalize kindI p q r s = k at *
  go_enter Try.func44, Try.ntmps44
  go_wp2_with (first | (go_at_call 58; (with_reducible refine (impl_abs _ _ (by omega) (by omega)).mono ?_); rintro e w' ⟨rfl, rfl⟩) | (go_at_call 59; (with_reducible refine (impl_trace _ _ _ _ _ (by omega) (by omega) (by omega) (by omega)).mono ?_); rintro e w' ⟨rfl, hb⟩; obtain ⟨hc, hf, hk⟩ := bcell hb; have hz := hb.size; (try simp at hz); (try simp only [World.size_alloc] at hc hf hk); (try (refine bone_elim hb (w.heap.size) ?_ ?_; (focus (first | omega | (simp; done) | (simp; omega))); intro g0 k0 s0)); (try (refine bone_elim hb (w.heap.size + 1) ?_ ?_; (focus (first | omega | (simp; done) | (simp; omega))); intro g1 k1 s1)); (try (refine bone_elim hb (w.heap.size + 1 + 1) ?_ ?_; (focus (first | omega | (simp; done) | (simp; omega))); intro g2 k2 s2)); (try (refine bone_elim hb (w.heap.size + 1 + 1 + 1) ?_ ?_; (focus (first | omega | (simp; done) | (simp; omega))); intro g3 k3 s3))))

  go_upto_region 2 with fail
  go_cut [7] (fun s7 wx => s7 = .bool true ∧ Below w.heap.size w wx)
  case first =>
    go_region_with (first | (go_at_call 60; (with_reducible refine (impl_one _).mono ?_); rintro e w' ⟨rfl, hb⟩; obtain ⟨hc, hf, hk⟩ := bcell hb; have hz := hb.size; (try simp at hz); (try simp only [World.size_alloc] at hc hf hk); (try (refine bone_elim hb (w.heap.size) ?_ ?_; (focus (first | omega | (simp; done) | (simp; omega))); intro g0 k0 s0)); (try (refine bone_elim hb (w.heap.size + 1) ?_ ?_; (focus (first | omega | (simp; done) | (simp; omega))); intro g1 k1 s1)); (try (refine bone_elim hb (w.heap.size + 1 + 1) ?_ ?_; (focus (first | omega | (simp; done) | (simp; omega))); intro g2 k2 s2)); (try (refine bone_elim hb (w.heap.size + 1 + 1 + 1) ?_ ?_; (focus (first | omega | (simp; done) | (simp; omega))); intro g3 k3 s3))) | (go_at_call 61; (with_reducible refine (impl_negative_one _).mono ?_); rintro e w' ⟨rfl, hb⟩; obtain ⟨hc, hf, hk⟩ := bcell hb; have hz := hb.size; (try simp at hz); (try simp only [World.size_alloc] at hc hf hk); (try (refine bone_elim hb (w.heap.size) ?_ ?_; (focus (first | omega | (simp; done) | (simp; omega))); intro g0 k0 s0)); (try (refine bone_elim hb (w.heap.size + 1) ?_ ?_; (focus (first | omega | (simp; done) | (simp; omega))); intro g1 k1 s1)); (try (refine bone_elim hb (w.heap.size + 1 + 1) ?_ ?_; (focus (first | omega | (simp; done) | (simp; omega))); intro g2 k2 s2)); (try (refine bone_elim hb (w.heap.size + 1 + 1 + 1) ?_ ?_; (focus (first | omega | (simp; done) | (simp; omega))); intro g3 k3 s3))))
    all_goals (go_wp2_with fail; go_meet; exact ⟨by first | rfl | rw [h' rfl], (by repeat (first | (with_reducible exact Below.refl _ _) | (with_reducible assumption) | (with_reducible refine Below.drew ?_) | ((with_reducible refine bl_alloc ?_ ?_); (focus (first | omega | (simp; done) | (simp; omega)))) | ((with_reducible refine bl_set ?_ ?_); (focus (first | omega | (simp; done) | (simp; omega)))) | ((with_reducible refine bl_trans (by with_reducible assumption) ?_ ?_); (focus (first | omega | (simp; done) | (simp; omega))))))⟩)
  case rest =>
    obtain ⟨rfl, hbx⟩ := hcut
    go_wp2
    all_goals go_ret
    all_goals exact ⟨ret_int (by rw [HF.out]; first | done | exact tkA HA.out (by omega) | exact tkB HA.out (by omega) (by simp_all; done) | exact tkB HA.out (by omega) (by omega) | exact tkC HA.out (by omega) (by omega) | exact tkC HA.out (by omega) (by simp_all; done)), (by repeat (first | (with_reducible exact Below.refl _ _) | (with_reducible assumption) | (with_reducible refine Below.drew ?_) | ((with_reducible refine bl_alloc ?_ ?_); (focus (first | omega | (simp; done) | (simp; omega)))) | ((with_reducible refine bl_set ?_ ?_); (focus (first | omega | (simp; done) | (simp; omega)))) | ((with_reducible refine bl_trans (by with_reducible assumption) ?_ ?_); (focus (first | omega | (simp; done) | (simp; omega))))))⟩

set_option maxHeartbeats 2000000 in
theorem impl_kind3 (p q r s : Int) (w : World) (c : Bool) (hc : c = true) (hd : properB p q r s = true) (h : (p == 1 && (q == 0 && (r == 0 && s == 1))) = false) (h' : false = false → (p == -1 && (q == 0 && (r == 0 && s == -1))) = false) :
    Calls Try.prog 44 #[.agg #[.int .i64 p, .int .i64 q, .int .i64 r, .int .i64 s]] w fun e w' => e = .returned (.int .i64 (kindI p q r s)) ∧ Below w.heap.size w w' := by
  have hf := kindI_eq hd _ _ h rfl
  obtain ⟨⟨a1, a2⟩, ⟨b1, b2⟩, ⟨c1, c2⟩, ⟨d1, d2⟩⟩ := properB_num hd
  have ha := absI_trace (t := p + s) (by omega) (by omega)
  simp only [h', Bool.true_or, Bool.or_true, Bool.or_false, if_true, Bool.false_eq_true, if_false] at hf h'
  have HF := Lib.hid hf
  have HA := Lib.hid ha
  clear hd hf ha hc
  generalize kindI p q r s = k at *
  go_enter Try.func44, Try.ntmps44
  go_wp2_with (first | (go_at_call 58; (with_reducible refine (impl_abs _ _ (by omega) (by omega)).mono ?_); rintro e w' ⟨rfl, rfl⟩) | (go_at_call 59; (with_reducible refine (impl_trace _ _ _ _ _ (by omega) (by omega) (by omega) (by omega)).mono ?_); rintro e w' ⟨rfl, hb⟩; obtain ⟨hc, hf, hk⟩ := bcell hb; have hz := hb.size; (try simp at hz); (try simp only [World.size_alloc] at hc hf hk); (try (refine bone_elim hb (w.heap.size) ?_ ?_; (focus (first | omega | (simp; done) | (simp; omega))); intro g0 k0 s0)); (try (refine bone_elim hb (w.heap.size + 1) ?_ ?_; (focus (first | omega | (simp; done) | (simp; omega))); intro g1 k1 s1)); (try (refine bone_elim hb (w.heap.size + 1 + 1) ?_ ?_; (focus (first | omega | (simp; done) | (simp; omega))); intro g2 k2 s2)); (try (refine bone_elim hb (w.heap.size + 1 + 1 + 1) ?_ ?_; (focus (first | omega | (simp; done) | (simp; omega))); intro g3 k3 s3))))

  go_upto_region 2 with fail
  go_cut [7] (fun s7 wx => s7 = .bool false ∧ Below w.heap.size w wx)
  case first =>
    go_region_with (first | (go_at_call 60; (with_reducible refine (impl_one _).mono ?_); rintro e w' ⟨rfl, hb⟩; obtain ⟨hc, hf, hk⟩ := bcell hb; have hz := hb.size; (try simp at hz); (try simp only [World.size_alloc] at hc hf hk); (try (refine bone_elim hb (w.heap.size) ?_ ?_; (focus (first | omega | (simp; done) | (simp; omega))); intro g0 k0 s0)); (try (refine bone_elim hb (w.heap.size + 1) ?_ ?_; (focus (first | omega | (simp; done) | (simp; omega))); intro g1 k1 s1)); (try (refine bone_elim hb (w.heap.size + 1 + 1) ?_ ?_; (focus (first | omega | (simp; done) | (simp; omega))); intro g2 k2 s2)); (try (refine bone_elim hb (w.heap.size + 1 + 1 + 1) ?_ ?_; (focus (first | omega | (simp; done) | (simp; omega))); intro g3 k3 s3))) | (go_at_call 61; (with_reducible refine (impl_negative_one _).mono ?_); rintro e w' ⟨rfl, hb⟩; obtain ⟨hc, hf, hk⟩ := bcell hb; have hz := hb.size; (try simp at hz); (try simp only [World.size_alloc] at hc hf hk); (try (refine bone_elim hb (w.heap.size) ?_ ?_; (focus (first | omega | (simp; done) | (simp; omega))); intro g0 k0 s0)); (try (refine bone_elim hb (w.heap.size + 1) ?_ ?_; (focus (first | omega | (simp; done) | (simp; omega))); intro g1 k1 s1)); (try (refine bone_elim hb (w.heap.size + 1 + 1) ?_ ?_; (focus (first | omega | (simp; done) | (simp; omega))); intro g2 k2 s2)); (try (refine bone_elim hb (w.heap.size + 1 + 1 + 1) ?_ ?_; (focus (first | omega | (simp; done) | (simp; omega))); intro g3 k3 s3))))
    all_goals (go_wp2_with fail; go_meet; exact ⟨by first | rfl | rw [h' rfl], (by repeat (first | (with_reducible exact Below.refl _ _) | (with_reducible assumption) | (with_reducible refine Below.drew ?_) | ((with_reducible refine bl_alloc ?_ ?_); (focus (first | omega | (simp; done) | (simp; omega)))) | ((with_reducible refine bl_set ?_ ?_); (focus (first | omega | (simp; done) | (simp; omega)))) | ((with_reducible refine bl_trans (by with_reducible assumption) ?_ ?_); (focus (first | omega | (simp; done) | (simp; omega))))))⟩)
  case rest =>
    obtain ⟨rfl, hbx⟩ := hcut
    go_wp2
    all_goals go_ret
    all_goals exact ⟨ret_int (by rw [HF.out]; first | done | exact tkA HA.out (by omega) | exact tkB HA.out (by omega) (by simp_all; done) | exact tkB HA.out (by omega) (by omega) | exact tkC HA.out (by omega) (by omega) | exact tkC HA.out (by omega) (by simp_all; done)), (by repeat (first | (with_reducible exact Below.refl _ _) | (with_reducible assumption) | (with_reducible refine Below.drew ?_) | ((with_reducible refine bl_alloc ?_ ?_); (focus (first | omega | (simp; done) | (simp; omega)))) | ((with_reducible refine bl_set ?_ ?_); (focus (first | omega | (simp; done) | (simp; omega)))) | ((with_reducible refine bl_trans (by with_reducible assumption) ?_ ?_); (focus (first | omega | (simp; done) | (simp; omega))))))⟩


theorem impl_kind (p q r s : Int) (w : World) (hd : properB p q r s = true) :
    Calls Try.prog 44 #[.agg #[.int .i64 p, .int .i64 q, .int .i64 r, .int .i64 s]] w fun e w' => e = .returned (.int .i64 (kindI p q r s)) ∧ Below w.heap.size w w' := by
  cases h : (p == 1 && (q == 0 && (r == 0 && s == 1))) with
  | true => exact impl_kind1 p q r s w true rfl hd h (fun h => by cases h)
  | false =>
    cases h' : (p == -1 && (q == 0 && (r == 0 && s == -1))) with
    | true => exact impl_kind2 p q r s w true rfl hd h (fun _ => h')
    | false => exact impl_kind3 p q r s w true rfl hd h (fun _ => h')

theorem impl_KindOfMatrix_yes (p q r s : Int) (w : World) (hd : properB p q r s = true) :
    Calls Try.prog 25 #[.agg #[.int .i64 p, .int .i64 q, .int .i64 r, .int .i64 s]] w fun e w' => e = .returned (.tuple #[.int .i64 (kindI p q r s), .bool true]) ∧ Below w.heap.size w w' := by
  obtain ⟨⟨a1, a2⟩, ⟨b1, b2⟩, ⟨c1, c2⟩, ⟨d1, d2⟩⟩ := properB_num hd
  go_enter Try.func25, Try.ntmps25
  go_wp2_with (first | (go_at_call 37; (with_reducible refine (impl_isProper _ _ _ _ _).mono ?_); rintro e w' ⟨rfl, hb⟩; obtain ⟨hc, hf, hk⟩ := bcell hb; have hz := hb.size; (try simp at hz); (try simp only [World.size_alloc] at hc hf hk); (try (refine bone_elim hb (w.heap.size) ?_ ?_; (focus (first | omega | (simp; done) | (simp; omega))); intro g0 k0 s0)); (try (refine bone_elim hb (w.heap.size + 1) ?_ ?_; (focus (first | omega | (simp; done) | (simp; omega))); intro g1 k1 s1)); (try (refine bone_elim hb (w.heap.size + 1 + 1) ?_ ?_; (focus (first | omega | (simp; done) | (simp; omega))); intro g2 k2 s2)); (try (refine bone_elim hb (w.heap.size + 1 + 1 + 1) ?_ ?_; (focus (first | omega | (simp; done) | (simp; omega))); intro g3 k3 s3))) | (go_at_call 44; (with_reducible refine (impl_kind _ _ _ _ _ (by assumption)).mono ?_); rintro e w' ⟨rfl, hb⟩; obtain ⟨hc, hf, hk⟩ := bcell hb; have hz := hb.size; (try simp at hz); (try simp only [World.size_alloc] at hc hf hk); (try (refine bone_elim hb (w.heap.size) ?_ ?_; (focus (first | omega | (simp; done) | (simp; omega))); intro g0 k0 s0)); (try (refine bone_elim hb (w.heap.size + 1) ?_ ?_; (focus (first | omega | (simp; done) | (simp; omega))); intro g1 k1 s1)); (try (refine bone_elim hb (w.heap.size + 1 + 1) ?_ ?_; (focus (first | omega | (simp; done) | (simp; omega))); intro g2 k2 s2)); (try (refine bone_elim hb (w.heap.size + 1 + 1 + 1) ?_ ?_; (focus (first | omega | (simp; done) | (simp; omega))); intro g3 k3 s3))))
  go_ret2
  exact ⟨rfl, (by repeat (first | (with_reducible exact Below.refl _ _) | (with_reducible assumption) | (with_reducible refine Below.drew ?_) | ((with_reducible refine bl_alloc ?_ ?_); (focus (first | omega | (simp; done) | (simp; omega)))) | ((with_reducible refine bl_set ?_ ?_); (focus (first | omega | (simp; done) | (simp; omega)))) | ((with_reducible refine bl_trans (by with_reducible assumption) ?_ ?_); (focus (first | omega | (simp; done) | (simp; omega))))))⟩

theorem impl_KindOfMatrix_no (p q r s : Int) (w : World) (hd : properB p q r s = false) :
    Calls Try.prog 25 #[.agg #[.int .i64 p, .int .i64 q, .int .i64 r, .int .i64 s]] w fun e w' => e = .returned (.tuple #[.int .i64 0, .bool false]) ∧ Below w.heap.size w w' := by
  go_enter Try.func25, Try.ntmps25
  go_wp2_with (first | (go_at_call 37; (with_reducible refine (impl_isProper _ _ _ _ _).mono ?_); rintro e w' ⟨rfl, hb⟩; obtain ⟨hc, hf, hk⟩ := bcell hb; have hz := hb.size; (try simp at hz); (try simp only [World.size_alloc] at hc hf hk); (try (refine bone_elim hb (w.heap.size) ?_ ?_; (focus (first | omega | (simp; done) | (simp; omega))); intro g0 k0 s0)); (try (refine bone_elim hb (w.heap.size + 1) ?_ ?_; (focus (first | omega | (simp; done) | (simp; omega))); intro g1 k1 s1)); (try (refine bone_elim hb (w.heap.size + 1 + 1) ?_ ?_; (focus (first | omega | (simp; done) | (simp; omega))); intro g2 k2 s2)); (try (refine bone_elim hb (w.heap.size + 1 + 1 + 1) ?_ ?_; (focus (first | omega | (simp; done) | (simp; omega))); intro g3 k3 s3))) | (go_at_call 44; (with_reducible refine (impl_kind _ _ _ _ _ (by assumption)).mono ?_); rintro e w' ⟨rfl, hb⟩; obtain ⟨hc, hf, hk⟩ := bcell hb; have hz := hb.size; (try simp at hz); (try simp only [World.size_alloc] at hc hf hk); (try (refine bone_elim hb (w.heap.size) ?_ ?_; (focus (first | omega | (simp; done) | (simp; omega))); intro g0 k0 s0)); (try (refine bone_elim hb (w.heap.size + 1) ?_ ?_; (focus (first | omega | (simp; done) | (simp; omega))); intro g1 k1 s1)); (try (refine bone_elim hb (w.heap.size + 1 + 1) ?_ ?_; (focus (first | omega | (simp; done) | (simp; omega))); intro g2 k2 s2)); (try (refine bone_elim hb (w.heap.size + 1 + 1 + 1) ?_ ?_; (focus (first | omega | (simp; done) | (simp; omega))); intro g3 k3 s3))))
  go_ret2
  exact ⟨rfl, (by repeat (first | (with_reducible exact Below.refl _ _) | (with_reducible assumption) | (with_reducible refine Below.drew ?_) | ((with_reducible refine bl_alloc ?_ ?_); (focus (first | omega | (simp; done) | (simp; omega)))) | ((with_reducible refine bl_set ?_ ?_); (focus (first | omega | (simp; done) | (simp; omega)))) | ((with_reducible refine bl_trans (by with_reducible assumption) ?_ ?_); (focus (first | omega | (simp; done) | (simp; omega))))))⟩

theorem spec_KindOfMatrix_yes (p q r s : Int) (w : World) (hd : properB p q r s = true) :
    Calls Try.prog 24 #[.agg #[.int .i64 p, .int .i64 q, .int .i64 r, .int .i64 s]] w fun e w' => e = .returned (.tuple #[.int .i64 (kindI p q r s), .bool true]) ∧ Below w.heap.size w w' := by
  obtain ⟨⟨a1, a2⟩, ⟨b1, b2⟩, ⟨c1, c2⟩, ⟨d1, d2⟩⟩ := properB_num hd
  go_enter Try.func24, Try.ntmps24
  go_wp2_with (first | (go_at_call 34; (with_reducible refine (spec_moProper _ _ _ _ _).mono ?_); rintro e w' ⟨rfl, hb⟩; obtain ⟨hc, hf, hk⟩ := bcell hb; have hz := hb.size; (try simp at hz); (try simp only [World.size_alloc] at hc hf hk); (try (refine bone_elim hb (w.heap.size) ?_ ?_; (focus (first | omega | (simp; done) | (simp; omega))); intro g0 k0 s0)); (try (refine bone_elim hb (w.heap.size + 1) ?_ ?_; (focus (first | omega | (simp; done) | (simp; omega))); intro g1 k1 s1)); (try (refine bone_elim hb (w.heap.size + 1 + 1) ?_ ?_; (focus (first | omega | (simp; done) | (simp; omega))); intro g2 k2 s2)); (try (refine bone_elim hb (w.heap.size + 1 + 1 + 1) ?_ ?_; (focus (first | omega | (simp; done) | (simp; omega))); intro g3 k3 s3))) | (go_at_call 43; (with_reducible refine (spec_moKind _ _ _ _ _ (by omega) (by omega) (by omega) (by omega)).mono ?_); rintro e w' ⟨rfl, hb⟩; obtain ⟨hc, hf, hk⟩ := bcell hb; have hz := hb.size; (try simp at hz); (try simp only [World.size_alloc] at hc hf hk); (try (refine bone_elim hb (w.heap.size) ?_ ?_; (focus (first | omega | (simp; done) | (simp; omega))); intro g0 k0 s0)); (try (refine bone_elim hb (w.heap.size + 1) ?_ ?_; (focus (first | omega | (simp; done) | (simp; omega))); intro g1 k1 s1)); (try (refine bone_elim hb (w.heap.size + 1 + 1) ?_ ?_; (focus (first | omega | (simp; done) | (simp; omega))); intro g2 k2 s2)); (try (refine bone_elim hb (w.heap.size + 1 + 1 + 1) ?_ ?_; (focus (first | omega | (simp; done) | (simp; omega))); intro g3 k3 s3))))
  go_ret2
  exact ⟨rfl, (by repeat (first | (with_reducible exact Below.refl _ _) | (with_reducible assumption) | (with_reducible refine Below.drew ?_) | ((with_reducible refine bl_alloc ?_ ?_); (focus (first | omega | (simp; done) | (simp; omega)))) | ((with_reducible refine bl_set ?_ ?_); (focus (first | omega | (simp; done) | (simp; omega)))) | ((with_reducible refine bl_trans (by with_reducible assumption) ?_ ?_); (focus (first | omega | (simp; done) | (simp; omega))))))⟩

theorem spec_KindOfMatrix_no (p q r s : Int) (w : World) (hd : properB p q r s = false) :
    Calls Try.prog 24 #[.agg #[.int .i64 p, .int .i64 q, .int .i64 r, .int .i64 s]] w fun e w' => e = .returned (.tuple #[.int .i64 0, .bool false]) ∧ Below w.heap.size w w' := by
  go_enter Try.func24, Try.ntmps24
  go_wp2_with (first | (go_at_call 34; (with_reducible refine (spec_moProper _ _ _ _ _).mono ?_); rintro e w' ⟨rfl, hb⟩; obtain ⟨hc, hf, hk⟩ := bcell hb; have hz := hb.size; (try simp at hz); (try simp only [World.size_alloc] at hc hf hk); (try (refine bone_elim hb (w.heap.size) ?_ ?_; (focus (first | omega | (simp; done) | (simp; omega))); intro g0 k0 s0)); (try (refine bone_elim hb (w.heap.size + 1) ?_ ?_; (focus (first | omega | (simp; done) | (simp; omega))); intro g1 k1 s1)); (try (refine bone_elim hb (w.heap.size + 1 + 1) ?_ ?_; (focus (first | omega | (simp; done) | (simp; omega))); intro g2 k2 s2)); (try (refine bone_elim hb (w.heap.size + 1 + 1 + 1) ?_ ?_; (focus (first | omega | (simp; done) | (simp; omega))); intro g3 k3 s3))) | (go_at_call 43; (with_reducible refine (spec_moKind _ _ _ _ _ (by omega) (by omega) (by omega) (by omega)).mono ?_); rintro e w' ⟨rfl, hb⟩; obtain ⟨hc, hf, hk⟩ := bcell hb; have hz := hb.size; (try simp at hz); (try simp only [World.size_alloc] at hc hf hk); (try (refine bone_elim hb (w.heap.size) ?_ ?_; (focus (first | omega | (simp; done) | (simp; omega))); intro g0 k0 s0)); (try (refine bone_elim hb (w.heap.size + 1) ?_ ?_; (focus (first | omega | (simp; done) | (simp; omega))); intro g1 k1 s1)); (try (refine bone_elim hb (w.heap.size + 1 + 1) ?_ ?_; (focus (first | omega | (simp; done) | (simp; omega))); intro g2 k2 s2)); (try (refine bone_elim hb (w.heap.size + 1 + 1 + 1) ?_ ?_; (focus (first | omega | (simp; done) | (simp; omega))); intro g3 k3 s3))))
  go_ret2
  exact ⟨rfl, (by repeat (first | (with_reducible exact Below.refl _ _) | (with_reducible assumption) | (with_reducible refine Below.drew ?_) | ((with_reducible refine bl_alloc ?_ ?_); (focus (first | omega | (simp; done) | (simp; omega)))) | ((with_reducible refine bl_set ?_ ?_); (focus (first | omega | (simp; done) | (simp; omega)))) | ((with_reducible refine bl_trans (by with_reducible assumption) ?_ ?_); (focus (first | omega | (simp; done) | (simp; omega))))))⟩


theorem law_KindOfMatrix (p q r s : Int) (w : World) :
    Calls Try.prog 8 #[.agg #[.int .i64 p, .int .i64 q, .int .i64 r, .int .i64 s]] w fun e w' => e = .returned (.bool (true)) ∧ Below w.heap.size w w' := by
  by_cases hd : properB p q r s = true
  · go_enter Try.func8, Try.ntmps8
    go_wp2_with (first | (go_at_call 18; (with_reducible refine (laws_toMatrix _ _ _ _ _).mono ?_); rintro e w' ⟨rfl, hb⟩; obtain ⟨hc, hf, hk⟩ := bcell hb; have hz := hb.size; (try simp at hz); (try simp only [World.size_alloc] at hc hf hk); (try (refine bone_elim hb (w.heap.size) ?_ ?_; (focus (first | omega | (simp; done) | (simp; omega))); intro g0 k0 s0)); (try (refine bone_elim hb (w.heap.size + 1) ?_ ?_; (focus (first | omega | (simp; done) | (simp; omega))); intro g1 k1 s1)); (try (refine bone_elim hb (w.heap.size + 1 + 1) ?_ ?_; (focus (first | omega | (simp; done) | (simp; omega))); intro g2 k2 s2)); (try (refine bone_elim hb (w.heap.size + 1 + 1 + 1) ?_ ?_; (focus (first | omega | (simp; done) | (simp; omega))); intro g3 k3 s3))) | (go_at_call 25; (with_reducible refine (impl_KindOfMatrix_yes _ _ _ _ _ hd).mono ?_); rintro e w' ⟨rfl, hb⟩; obtain ⟨hc, hf, hk⟩ := bcell hb; have hz := hb.size; (try simp at hz); (try simp only [World.size_alloc] at hc hf hk); (try (refine bone_elim hb (w.heap.size) ?_ ?_; (focus (first | omega | (simp; done) | (simp; omega))); intro g0 k0 s0)); (try (refine bone_elim hb (w.heap.size + 1) ?_ ?_; (focus (first | omega | (simp; done) | (simp; omega))); intro g1 k1 s1)); (try (refine bone_elim hb (w.heap.size + 1 + 1) ?_ ?_; (focus (first | omega | (simp; done) | (simp; omega))); intro g2 k2 s2)); (try (refine bone_elim hb (w.heap.size + 1 + 1 + 1) ?_ ?_; (focus (first | omega | (simp; done) | (simp; omega))); intro g3 k3 s3))) | (go_at_call 25; (with_reducible refine (impl_KindOfMatrix_no _ _ _ _ _ hd).mono ?_); rintro e w' ⟨rfl, hb⟩; obtain ⟨hc, hf, hk⟩ := bcell hb; have hz := hb.size; (try simp at hz); (try simp only [World.size_alloc] at hc hf hk); (try (refine bone_elim hb (w.heap.size) ?_ ?_; (focus (first | omega | (simp; done) | (simp; omega))); intro g0 k0 s0)); (try (refine bone_elim hb (w.heap.size + 1) ?_ ?_; (focus (first | omega | (simp; done) | (simp; omega))); intro g1 k1 s1)); (try (refine bone_elim hb (w.heap.size + 1 + 1) ?_ ?_; (focus (first | omega | (simp; done) | (simp; omega))); intro g2 k2 s2)); (try (refine bone_elim hb (w.heap.size + 1 + 1 + 1) ?_ ?_; (focus (first | omega | (simp; done) | (simp; omega))); intro g3 k3 s3))) | (go_at_call 24; (with_reducible refine (spec_KindOfMatrix_yes _ _ _ _ _ hd).mono ?_); rintro e w' ⟨rfl, hb⟩; obtain ⟨hc, hf, hk⟩ := bcell hb; have hz := hb.size; (try simp at hz); (try simp only [World.size_alloc] at hc hf hk); (try (refine bone_elim hb (w.heap.size) ?_ ?_; (focus (first | omega | (simp; done) | (simp; omega))); intro g0 k0 s0)); (try (refine bone_elim hb (w.heap.size + 1) ?_ ?_; (focus (first | omega | (simp; done) | (simp; omega))); intro g1 k1 s1)); (try (refine bone_elim hb (w.heap.size + 1 + 1) ?_ ?_; (focus (first | omega | (simp; done) | (simp; omega))); intro g2 k2 s2)); (try (refine bone_elim hb (w.heap.size + 1 + 1 + 1) ?_ ?_; (focus (first | omega | (simp; done) | (simp; omega))); intro g3 k3 s3))) | (go_at_call 24; (with_reducible refine (spec_KindOfMatrix_no _ _ _ _ _ hd).mono ?_); rintro e w' ⟨rfl, hb⟩; obtain ⟨hc, hf, hk⟩ := bcell hb; have hz := hb.size; (try simp at hz); (try simp only [World.size_alloc] at hc hf hk); (try (refine bone_elim hb (w.heap.size) ?_ ?_; (focus (first | omega | (simp; done) | (simp; omega))); intro g0 k0 s0)); (try (refine bone_elim hb (w.heap.size + 1) ?_ ?_; (focus (first | omega | (simp; done) | (simp; omega))); intro g1 k1 s1)); (try (refine bone_elim hb (w.heap.size + 1 + 1) ?_ ?_; (focus (first | omega | (simp; done) | (simp; omega))); intro g2 k2 s2)); (try (refine bone_elim hb (w.heap.size + 1 + 1 + 1) ?_ ?_; (focus (first | omega | (simp; done) | (simp; omega))); intro g3 k3 s3))))
    go_ret
    exact ⟨ret_bool rfl, (by repeat (first | (with_reducible exact Below.refl _ _) | (with_reducible assumption) | (with_reducible refine Below.drew ?_) | ((with_reducible refine bl_alloc ?_ ?_); (focus (first | omega | (simp; done) | (simp; omega)))) | ((with_reducible refine bl_set ?_ ?_); (focus (first | omega | (simp; done) | (simp; omega)))) | ((with_reducible refine bl_trans (by with_reducible assumption) ?_ ?_); (focus (first | omega | (simp; done) | (simp; omega))))))⟩
  · simp only [Bool.not_eq_true] at hd
    go_enter Try.func8, Try.ntmps8
    go_wp2_with (first | (go_at_call 18; (with_reducible refine (laws_toMatrix _ _ _ _ _).mono ?_); rintro e w' ⟨rfl, hb⟩; obtain ⟨hc, hf, hk⟩ := bcell hb; have hz := hb.size; (try simp at hz); (try simp only [World.size_alloc] at hc hf hk); (try (refine bone_elim hb (w.heap.size) ?_ ?_; (focus (first | omega | (simp; done) | (simp; omega))); intro g0 k0 s0)); (try (refine bone_elim hb (w.heap.size + 1) ?_ ?_; (focus (first | omega | (simp; done) | (simp; omega))); intro g1 k1 s1)); (try (refine bone_elim hb (w.heap.size + 1 + 1) ?_ ?_; (focus (first | omega | (simp; done) | (simp; omega))); intro g2 k2 s2)); (try (refine bone_elim hb (w.heap.size + 1 + 1 + 1) ?_ ?_; (focus (first | omega | (simp; done) | (simp; omega))); intro g3 k3 s3))) | (go_at_call 25; (with_reducible refine (impl_KindOfMatrix_yes _ _ _ _ _ hd).mono ?_); rintro e w' ⟨rfl, hb⟩; obtain ⟨hc, hf, hk⟩ := bcell hb; have hz := hb.size; (try simp at hz); (try simp only [World.size_alloc] at hc hf hk); (try (refine bone_elim hb (w.heap.size) ?_ ?_; (focus (first | omega | (simp; done) | (simp; omega))); intro g0 k0 s0)); (try (refine bone_elim hb (w.heap.size + 1) ?_ ?_; (focus (first | omega | (simp; done) | (simp; omega))); intro g1 k1 s1)); (try (refine bone_elim hb (w.heap.size + 1 + 1) ?_ ?_; (focus (first | omega | (simp; done) | (simp; omega))); intro g2 k2 s2)); (try (refine bone_elim hb (w.heap.size + 1 + 1 + 1) ?_ ?_; (focus (first | omega | (simp; done) | (simp; omega))); intro g3 k3 s3))) | (go_at_call 25; (with_reducible refine (impl_KindOfMatrix_no _ _ _ _ _ hd).mono ?_); rintro e w' ⟨rfl, hb⟩; obtain ⟨hc, hf, hk⟩ := bcell hb; have hz := hb.size; (try simp at hz); (try simp only [World.size_alloc] at hc hf hk); (try (refine bone_elim hb (w.heap.size) ?_ ?_; (focus (first | omega | (simp; done) | (simp; omega))); intro g0 k0 s0)); (try (refine bone_elim hb (w.heap.size + 1) ?_ ?_; (focus (first | omega | (simp; done) | (simp; omega))); intro g1 k1 s1)); (try (refine bone_elim hb (w.heap.size + 1 + 1) ?_ ?_; (focus (first | omega | (simp; done) | (simp; omega))); intro g2 k2 s2)); (try (refine bone_elim hb (w.heap.size + 1 + 1 + 1) ?_ ?_; (focus (first | omega | (simp; done) | (simp; omega))); intro g3 k3 s3))) | (go_at_call 24; (with_reducible refine (spec_KindOfMatrix_yes _ _ _ _ _ hd).mono ?_); rintro e w' ⟨rfl, hb⟩; obtain ⟨hc, hf, hk⟩ := bcell hb; have hz := hb.size; (try simp at hz); (try simp only [World.size_alloc] at hc hf hk); (try (refine bone_elim hb (w.heap.size) ?_ ?_; (focus (first | omega | (simp; done) | (simp; omega))); intro g0 k0 s0)); (try (refine bone_elim hb (w.heap.size + 1) ?_ ?_; (focus (first | omega | (simp; done) | (simp; omega))); intro g1 k1 s1)); (try (refine bone_elim hb (w.heap.size + 1 + 1) ?_ ?_; (focus (first | omega | (simp; done) | (simp; omega))); intro g2 k2 s2)); (try (refine bone_elim hb (w.heap.size + 1 + 1 + 1) ?_ ?_; (focus (first | omega | (simp; done) | (simp; omega))); intro g3 k3 s3))) | (go_at_call 24; (with_reducible refine (spec_KindOfMatrix_no _ _ _ _ _ hd).mono ?_); rintro e w' ⟨rfl, hb⟩; obtain ⟨hc, hf, hk⟩ := bcell hb; have hz := hb.size; (try simp at hz); (try simp only [World.size_alloc] at hc hf hk); (try (refine bone_elim hb (w.heap.size) ?_ ?_; (focus (first | omega | (simp; done) | (simp; omega))); intro g0 k0 s0)); (try (refine bone_elim hb (w.heap.size + 1) ?_ ?_; (focus (first | omega | (simp; done) | (simp; omega))); intro g1 k1 s1)); (try (refine bone_elim hb (w.heap.size + 1 + 1) ?_ ?_; (focus (first | omega | (simp; done) | (simp; omega))); intro g2 k2 s2)); (try (refine bone_elim hb (w.heap.size + 1 + 1 + 1) ?_ ?_; (focus (first | omega | (simp; done) | (simp; omega))); intro g3 k3 s3))))
    go_ret
    exact ⟨ret_bool rfl, (by repeat (first | (with_reducible exact Below.refl _ _) | (with_reducible assumption) | (with_reducible refine Below.drew ?_) | ((with_reducible refine bl_alloc ?_ ?_); (focus (first | omega | (simp; done) | (simp; omega)))) | ((with_reducible refine bl_set ?_ ?_); (focus (first | omega | (simp; done) | (simp; omega)))) | ((with_reducible refine bl_trans (by with_reducible assumption) ?_ ?_); (focus (first | omega | (simp; done) | (simp; omega))))))⟩

end Go.Proofs.Ytindcbcafmgfdaa
