/- Matrices: products, inverses, powers, conjugates, orders. -/
import Derived.Test.YtcldombcamjgaaaA2
namespace Go.Proofs.Ytcldombcamjgaaa
open Go.RowKit

/-- A block of this call's own that holds four integers. -/
def Own4 (w : World) (b : Nat) (p q r s : Int) : Prop :=
  b < w.heap.size ∧ w.cell? ⟨b, 0, none⟩ = some (.int .i64 p) ∧ w.cell? ⟨b, 1, none⟩ = some (.int .i64 q) ∧ w.cell? ⟨b, 2, none⟩ = some (.int .i64 r) ∧ w.cell? ⟨b, 3, none⟩ = some (.int .i64 s) ∧ ∀ o, w.frozen? ⟨b, o, none⟩ = false
theorem Own4.below {w w' : World} {b : Nat} {p q r s : Int} (h : Own4 w b p q r s) (hb : Below w.heap.size w w') : Own4 w' b p q r s :=
  ⟨Nat.lt_of_lt_of_le h.1 hb.size, (hb.cell (p := ⟨b, 0, none⟩) h.1).trans h.2.1, (hb.cell (p := ⟨b, 1, none⟩) h.1).trans h.2.2.1, (hb.cell (p := ⟨b, 2, none⟩) h.1).trans h.2.2.2.1, (hb.cell (p := ⟨b, 3, none⟩) h.1).trans h.2.2.2.2.1,
    fun o => (hb.frozen (p := ⟨b, o, none⟩) h.1).trans (h.2.2.2.2.2 o)⟩

structure Mat where
  p : Int
  q : Int
  r : Int
  s : Int
def mulW (m n : Mat) : Mat := ⟨wrap64 (wrap64 (m.p * n.p) + wrap64 (m.q * n.r)), wrap64 (wrap64 (m.p * n.q) + wrap64 (m.q * n.s)), wrap64 (wrap64 (m.r * n.p) + wrap64 (m.s * n.r)), wrap64 (wrap64 (m.r * n.q) + wrap64 (m.s * n.s))⟩
def numM (m : Mat) : Bool := num m.p && num m.q && num m.r && num m.s

theorem spec_foMul (m n : Mat) (w : World) :
    Calls Try.prog 39 #[.agg #[.int .i64 m.p, .int .i64 m.q, .int .i64 m.r, .int .i64 m.s], .agg #[.int .i64 n.p, .int .i64 n.q, .int .i64 n.r, .int .i64 n.s]] w fun e w' => e = .returned (.agg #[.int .i64 (mulW m n).p, .int .i64 (mulW m n).q, .int .i64 (mulW m n).r, .int .i64 (mulW m n).s]) ∧ Below w.heap.size w w' := by
  obtain ⟨p, q, r, s⟩ := m
  obtain ⟨p', q', r', s'⟩ := n
  simp only [mulW]
  go_enter Try.func39, Try.ntmps39
  go_wp2
  simp [bodyPost, results, Try.results39, go_sem, *]
  exact (by repeat (first | (with_reducible exact Below.refl _ _) | (with_reducible assumption) | (with_reducible refine Below.drew ?_) | ((with_reducible refine bl_alloc ?_ ?_); (focus (first | omega | (simp; done) | (simp; omega)))) | ((with_reducible refine bl_set ?_ ?_); (focus (first | omega | (simp; done) | (simp; omega)))) | ((with_reducible refine bl_trans (by with_reducible assumption) ?_ ?_); (focus (first | omega | (simp; done) | (simp; omega))))))

theorem impl_times (m n : Mat) (w : World) :
    Calls Try.prog 43 #[.agg #[.int .i64 m.p, .int .i64 m.q, .int .i64 m.r, .int .i64 m.s], .agg #[.int .i64 n.p, .int .i64 n.q, .int .i64 n.r, .int .i64 n.s]] w fun e w' => e = .returned (.agg #[.int .i64 (mulW m n).p, .int .i64 (mulW m n).q, .int .i64 (mulW m n).r, .int .i64 (mulW m n).s]) ∧ Below w.heap.size w w' := by
  obtain ⟨p, q, r, s⟩ := m
  obtain ⟨p', q', r', s'⟩ := n
  simp only [mulW]
  go_enter Try.func43, Try.ntmps43
  go_wp2
  simp [bodyPost, results, Try.results43, go_sem, *]
  exact (by repeat (first | (with_reducible exact Below.refl _ _) | (with_reducible assumption) | (with_reducible refine Below.drew ?_) | ((with_reducible refine bl_alloc ?_ ?_); (focus (first | omega | (simp; done) | (simp; omega)))) | ((with_reducible refine bl_set ?_ ?_); (focus (first | omega | (simp; done) | (simp; omega)))) | ((with_reducible refine bl_trans (by with_reducible assumption) ?_ ?_); (focus (first | omega | (simp; done) | (simp; omega))))))


def mpow (m : Mat) : Nat → Mat
  | 0 => ⟨1, 0, 0, 1⟩
  | k + 1 => mulW (mpow m k) m
def okPow (m : Mat) (k : Nat) : Bool := (List.range k).all fun i => numM (mpow m (i + 1))
def powRes (m : Mat) (k : Nat) : Mat := if okPow m k = true then mpow m k else ⟨0, 0, 0, 0⟩
theorem okPow_succ {m : Mat} {k : Nat} : okPow m (k + 1) = (okPow m k && numM (mpow m (k + 1))) := by
  simp [okPow, List.range_succ]
theorem okPow_mono {m : Mat} {i k : Nat} (h : okPow m i = false) (hik : i ≤ k) : okPow m k = false := by
  simp only [okPow, List.all_eq_false, List.mem_range] at *
  obtain ⟨x, hx, h⟩ := h
  exact ⟨x, by omega, h⟩

set_option maxHeartbeats 1000000 in
theorem spec_MatrixPower_yes (m : Mat) (k : Int) (w : World) (hd : properB m.p m.q m.r m.s = true) (h1 : 0 ≤ k) (h2 : k ≤ 20) :
    Calls Try.prog 12 #[.agg #[.int .i64 m.p, .int .i64 m.q, .int .i64 m.r, .int .i64 m.s], .int .i64 k] w fun e w' => e = .returned (.tuple #[.agg #[.int .i64 (powRes m k.toNat).p, .int .i64 (powRes m k.toNat).q, .int .i64 (powRes m k.toNat).r, .int .i64 (powRes m k.toNat).s], .bool (okPow m k.toNat)]) ∧ Below w.heap.size w w' := by
  obtain ⟨R, hR⟩ : ∃ R, R = powRes m k.toNat := ⟨_, rfl⟩
  obtain ⟨B, hB⟩ : ∃ B, B = okPow m k.toNat := ⟨_, rfl⟩
  rw [← hR, ← hB]
  have HR := Lib.hid hR
  have HB := Lib.hid hB
  clear hR hB
  go_enter Try.func12, Try.ntmps12
  go_wp2_with fail
  (with_reducible refine (spec_moProper _ _ _ _ _).mono ?_)
  rintro e w1 ⟨rfl, hb1⟩
  have hz1 := hb1.size
  (try simp at hz1)
  (refine bone_elim hb1 (w.heap.size) ?_ ?_; (focus (first | omega | (simp; done) | (simp; omega))); intro g1_0 k1_0 s1_0)
  (refine bone_elim hb1 (w.heap.size + 1) ?_ ?_; (focus (first | omega | (simp; done) | (simp; omega))); intro g1_1 k1_1 s1_1)
  go_wp2_with (first | (go_at_call 38; (with_reducible refine (spec_l1In _ _ _ _).mono ?_); rintro e w' ⟨rfl, rfl⟩))
  go_loopw [1] (fun t wr => ∃ i : Nat, i ≤ k.toNat ∧ t = .int .i64 (k - i) ∧ okPow m i = true ∧ Below w.heap.size w wr ∧ Own4 wr w.heap.size m.p m.q m.r m.s ∧ Own4 wr (w.heap.size + 1) 0 0 0 0 ∧ Own4 wr w1.heap.size (mpow m i).p (mpow m i).q (mpow m i).r (mpow m i).s) (fun t _ => (intOf t).toNat)
  case atStart => exact ⟨0, by omega, by simp, rfl, (by repeat (first | (with_reducible exact Below.refl _ _) | (with_reducible assumption) | (with_reducible refine Below.drew ?_) | ((with_reducible refine bl_alloc ?_ ?_); (focus (first | omega | (simp; done) | (simp; omega)))) | ((with_reducible refine bl_set ?_ ?_); (focus (first | omega | (simp; done) | (simp; omega)))) | ((with_reducible refine bl_trans (by with_reducible assumption) ?_ ?_); (focus (first | omega | (simp; done) | (simp; omega)))))), (by (repeat' (first | (refine And.intro ?_ ?_) | (intro o))) <;> (first | omega | (go_simp; done) | (simp; omega))), (by (repeat' (first | (refine And.intro ?_ ?_) | (intro o))) <;> (first | omega | (go_simp; done) | (simp; omega))), (show Own4 _ _ 1 0 0 1 from (by (repeat' (first | (refine And.intro ?_ ?_) | (intro o))) <;> (first | omega | (go_simp; done) | (simp; omega))))⟩
  case round =>
    obtain ⟨i, hi, rfl, hok, hbw, ⟨a0, a1, a2, a3, a4, a5⟩, ⟨b0, b1, b2, b3, b4, b5⟩, ⟨c0, c1, c2, c3, c4, c5⟩⟩ := hrel
    have HK := Lib.hid hok
    clear hok
    by_cases hlt : i < k.toNat
    · have hs : okPow m (i + 1) = (okPow m i && numM (mulW (mpow m i) m)) := okPow_succ
      have HS := Lib.hid hs
      clear hs
      cases hn : numM (mulW (mpow m i) m) with
      | true =>
        have HN := Lib.hid hn
        have hn' : (num (mulW (mpow m i) m).p && num (mulW (mpow m i) m).q && num (mulW (mpow m i) m).r && num (mulW (mpow m i) m).s) = true := hn
        clear hn
        go_wp2_with (first | (go_at_call 39; (with_reducible refine (spec_foMul _ _ _).mono ?_); rintro e w' ⟨rfl, hb⟩; obtain ⟨hc, hf, hk⟩ := bcell hb; have hz := hb.size; (try simp at hz); (try simp only [World.size_alloc] at hc hf hk); (try (refine bone_elim hb (w.heap.size) ?_ ?_; (focus (first | omega | (simp; done) | (simp; omega))); intro g0 k0 s0)); (try (refine bone_elim hb (w.heap.size + 1) ?_ ?_; (focus (first | omega | (simp; done) | (simp; omega))); intro g1 k1 s1)); (try (refine bone_elim hb (w.heap.size + 1 + 1) ?_ ?_; (focus (first | omega | (simp; done) | (simp; omega))); intro g2 k2 s2)); (try (refine bone_elim hb (w.heap.size + 1 + 1 + 1) ?_ ?_; (focus (first | omega | (simp; done) | (simp; omega))); intro g3 k3 s3)); (try (with_reducible refine bone_elim hb _ sa ?_; intro ga ka sa)); (try (with_reducible refine bone_alloc hb ?_; intro ga ka sa))) | (go_at_call 40; (with_reducible refine (spec_foMatrix _ _ _ _ _).mono ?_); rintro e w' ⟨rfl, hb⟩; obtain ⟨hc, hf, hk⟩ := bcell hb; have hz := hb.size; (try simp at hz); (try simp only [World.size_alloc] at hc hf hk); (try (refine bone_elim hb (w.heap.size) ?_ ?_; (focus (first | omega | (simp; done) | (simp; omega))); intro g0 k0 s0)); (try (refine bone_elim hb (w.heap.size + 1) ?_ ?_; (focus (first | omega | (simp; done) | (simp; omega))); intro g1 k1 s1)); (try (refine bone_elim hb (w.heap.size + 1 + 1) ?_ ?_; (focus (first | omega | (simp; done) | (simp; omega))); intro g2 k2 s2)); (try (refine bone_elim hb (w.heap.size + 1 + 1 + 1) ?_ ?_; (focus (first | omega | (simp; done) | (simp; omega))); intro g3 k3 s3)); (try (with_reducible refine bone_elim hb _ sa ?_; intro ga ka sa)); (try (with_reducible refine bone_alloc hb ?_; intro ga ka sa))))
        go_roundw
        case rel => exact ⟨i + 1, by omega, by simp; omega, by rw [HS.out, HK.out, HN.out]; rfl, (by repeat (first | (with_reducible exact Below.refl _ _) | (with_reducible assumption) | (with_reducible refine Below.drew ?_) | ((with_reducible refine bl_alloc ?_ ?_); (focus (first | omega | (simp; done) | (simp; omega)))) | ((with_reducible refine bl_set ?_ ?_); (focus (first | omega | (simp; done) | (simp; omega)))) | ((with_reducible refine bl_trans (by with_reducible assumption) ?_ ?_); (focus (first | omega | (simp; done) | (simp; omega)))))), (by (repeat' (first | (refine And.intro ?_ ?_) | (intro o))) <;> (first | omega | (go_simp; done) | (simp; omega))), (by (repeat' (first | (refine And.intro ?_ ?_) | (intro o))) <;> (first | omega | (go_simp; done) | (simp; omega))), (show Own4 _ _ (mulW (mpow m i) m).p (mulW (mpow m i) m).q (mulW (mpow m i) m).r (mulW (mpow m i) m).s from (by (repeat' (first | (refine And.intro ?_ ?_) | (intro o))) <;> (first | omega | (go_simp; done) | (simp; omega))))⟩
        case measure => simp [intOf]; omega
      | false =>
        have hn' : (num (mulW (mpow m i) m).p && num (mulW (mpow m i) m).q && num (mulW (mpow m i) m).r && num (mulW (mpow m i) m).s) = false := hn
        have e : B = false := HB.out.trans (okPow_mono (i := i + 1) (by rw [HS.out, HK.out, hn]; rfl) (by omega))
        have e2 : R = ⟨0, 0, 0, 0⟩ := HR.out.trans (by rw [powRes, ← HB.out, e]; rfl)
        clear hn HR HB
        subst e e2
        go_wp2_with (first | (go_at_call 39; (with_reducible refine (spec_foMul _ _ _).mono ?_); rintro e w' ⟨rfl, hb⟩; obtain ⟨hc, hf, hk⟩ := bcell hb; have hz := hb.size; (try simp at hz); (try simp only [World.size_alloc] at hc hf hk); (try (refine bone_elim hb (w.heap.size) ?_ ?_; (focus (first | omega | (simp; done) | (simp; omega))); intro g0 k0 s0)); (try (refine bone_elim hb (w.heap.size + 1) ?_ ?_; (focus (first | omega | (simp; done) | (simp; omega))); intro g1 k1 s1)); (try (refine bone_elim hb (w.heap.size + 1 + 1) ?_ ?_; (focus (first | omega | (simp; done) | (simp; omega))); intro g2 k2 s2)); (try (refine bone_elim hb (w.heap.size + 1 + 1 + 1) ?_ ?_; (focus (first | omega | (simp; done) | (simp; omega))); intro g3 k3 s3)); (try (with_reducible refine bone_elim hb _ sa ?_; intro ga ka sa)); (try (with_reducible refine bone_alloc hb ?_; intro ga ka sa))) | (go_at_call 40; (with_reducible refine (spec_foMatrix _ _ _ _ _).mono ?_); rintro e w' ⟨rfl, hb⟩; obtain ⟨hc, hf, hk⟩ := bcell hb; have hz := hb.size; (try simp at hz); (try simp only [World.size_alloc] at hc hf hk); (try (refine bone_elim hb (w.heap.size) ?_ ?_; (focus (first | omega | (simp; done) | (simp; omega))); intro g0 k0 s0)); (try (refine bone_elim hb (w.heap.size + 1) ?_ ?_; (focus (first | omega | (simp; done) | (simp; omega))); intro g1 k1 s1)); (try (refine bone_elim hb (w.heap.size + 1 + 1) ?_ ?_; (focus (first | omega | (simp; done) | (simp; omega))); intro g2 k2 s2)); (try (refine bone_elim hb (w.heap.size + 1 + 1 + 1) ?_ ?_; (focus (first | omega | (simp; done) | (simp; omega))); intro g3 k3 s3)); (try (with_reducible refine bone_elim hb _ sa ?_; intro ga ka sa)); (try (with_reducible refine bone_alloc hb ?_; intro ga ka sa))))
        simp [bodyPost, results, Try.results12, go_sem, *]
        exact (by repeat (first | (with_reducible exact Below.refl _ _) | (with_reducible assumption) | (with_reducible refine Below.drew ?_) | ((with_reducible refine bl_alloc ?_ ?_); (focus (first | omega | (simp; done) | (simp; omega)))) | ((with_reducible refine bl_set ?_ ?_); (focus (first | omega | (simp; done) | (simp; omega)))) | ((with_reducible refine bl_trans (by with_reducible assumption) ?_ ?_); (focus (first | omega | (simp; done) | (simp; omega))))))
    · have hik : i = k.toNat := by omega
      have e : B = true := HB.out.trans (by rw [← hik]; exact HK.out)
      have e2 : R = mpow m i := HR.out.trans (by rw [powRes, ← HB.out, e, hik]; rfl)
      clear HR HB HK hik
      subst e e2
      go_wp2
      simp [bodyPost, results, Try.results12, go_sem, *]
      exact (by repeat (first | (with_reducible exact Below.refl _ _) | (with_reducible assumption) | (with_reducible refine Below.drew ?_) | ((with_reducible refine bl_alloc ?_ ?_); (focus (first | omega | (simp; done) | (simp; omega)))) | ((with_reducible refine bl_set ?_ ?_); (focus (first | omega | (simp; done) | (simp; omega)))) | ((with_reducible refine bl_trans (by with_reducible assumption) ?_ ?_); (focus (first | omega | (simp; done) | (simp; omega))))))

set_option maxHeartbeats 1000000 in
theorem impl_MatrixPower_yes (m : Mat) (k : Int) (w : World) (hd : properB m.p m.q m.r m.s = true) (h1 : 0 ≤ k) (h2 : k ≤ 20) :
    Calls Try.prog 14 #[.agg #[.int .i64 m.p, .int .i64 m.q, .int .i64 m.r, .int .i64 m.s], .int .i64 k] w fun e w' => e = .returned (.tuple #[.agg #[.int .i64 (powRes m k.toNat).p, .int .i64 (powRes m k.toNat).q, .int .i64 (powRes m k.toNat).r, .int .i64 (powRes m k.toNat).s], .bool (okPow m k.toNat)]) ∧ Below w.heap.size w w' := by
  obtain ⟨R, hR⟩ : ∃ R, R = powRes m k.toNat := ⟨_, rfl⟩
  obtain ⟨B, hB⟩ : ∃ B, B = okPow m k.toNat := ⟨_, rfl⟩
  rw [← hR, ← hB]
  have HR := Lib.hid hR
  have HB := Lib.hid hB
  clear hR hB
  go_enter Try.func14, Try.ntmps14
  go_wp2_with fail
  (with_reducible refine (impl_isProper _ _ _ _ _).mono ?_)
  rintro e w1 ⟨rfl, hb1⟩
  have hz1 := hb1.size
  (try simp at hz1)
  (refine bone_elim hb1 (w.heap.size) ?_ ?_; (focus (first | omega | (simp; done) | (simp; omega))); intro g1_0 k1_0 s1_0)
  (refine bone_elim hb1 (w.heap.size + 1) ?_ ?_; (focus (first | omega | (simp; done) | (simp; omega))); intro g1_1 k1_1 s1_1)
  go_wp2_with fail
  (with_reducible refine (impl_one _).mono ?_)
  rintro e w2 ⟨rfl, hb2⟩
  have hz2 := hb2.size
  (try simp at hz2)
  (refine bone_elim hb2 (w.heap.size) ?_ ?_; (focus (first | omega | (simp; done) | (simp; omega))); intro g2_0 k2_0 s2_0)
  (refine bone_elim hb2 (w.heap.size + 1) ?_ ?_; (focus (first | omega | (simp; done) | (simp; omega))); intro g2_1 k2_1 s2_1)
  go_wp2
  go_loopw [1] (fun t wr => ∃ i : Nat, i ≤ k.toNat ∧ t = .int .i64 (k - i) ∧ okPow m i = true ∧ Below w.heap.size w wr ∧ Own4 wr w.heap.size m.p m.q m.r m.s ∧ Own4 wr (w.heap.size + 1) 0 0 0 0 ∧ Own4 wr w2.heap.size (mpow m i).p (mpow m i).q (mpow m i).r (mpow m i).s) (fun t _ => (intOf t).toNat)
  case atStart => exact ⟨0, by omega, by simp, rfl, (by repeat (first | (with_reducible exact Below.refl _ _) | (with_reducible assumption) | (with_reducible refine Below.drew ?_) | ((with_reducible refine bl_alloc ?_ ?_); (focus (first | omega | (simp; done) | (simp; omega)))) | ((with_reducible refine bl_set ?_ ?_); (focus (first | omega | (simp; done) | (simp; omega)))) | ((with_reducible refine bl_trans (by with_reducible assumption) ?_ ?_); (focus (first | omega | (simp; done) | (simp; omega)))))), (by (repeat' (first | (refine And.intro ?_ ?_) | (intro o))) <;> (first | omega | (go_simp; done) | (simp; omega))), (by (repeat' (first | (refine And.intro ?_ ?_) | (intro o))) <;> (first | omega | (go_simp; done) | (simp; omega))), (show Own4 _ _ 1 0 0 1 from (by (repeat' (first | (refine And.intro ?_ ?_) | (intro o))) <;> (first | omega | (go_simp; done) | (simp; omega))))⟩
  case round =>
    obtain ⟨i, hi, rfl, hok, hbw, ⟨a0, a1, a2, a3, a4, a5⟩, ⟨b0, b1, b2, b3, b4, b5⟩, ⟨c0, c1, c2, c3, c4, c5⟩⟩ := hrel
    have HK := Lib.hid hok
    clear hok
    by_cases hlt : i < k.toNat
    · have hs : okPow m (i + 1) = (okPow m i && numM (mulW (mpow m i) m)) := okPow_succ
      have HS := Lib.hid hs
      clear hs
      cases hn : numM (mulW (mpow m i) m) with
      | true =>
        have HN := Lib.hid hn
        have hn' : (num (mulW (mpow m i) m).p && num (mulW (mpow m i) m).q && num (mulW (mpow m i) m).r && num (mulW (mpow m i) m).s) = true := hn
        clear hn
        go_wp2_with (first | (go_at_call 43; (with_reducible refine (impl_times _ _ _).mono ?_); rintro e w' ⟨rfl, hb⟩; obtain ⟨hc, hf, hk⟩ := bcell hb; have hz := hb.size; (try simp at hz); (try simp only [World.size_alloc] at hc hf hk); (try (refine bone_elim hb (w.heap.size) ?_ ?_; (focus (first | omega | (simp; done) | (simp; omega))); intro g0 k0 s0)); (try (refine bone_elim hb (w.heap.size + 1) ?_ ?_; (focus (first | omega | (simp; done) | (simp; omega))); intro g1 k1 s1)); (try (refine bone_elim hb (w.heap.size + 1 + 1) ?_ ?_; (focus (first | omega | (simp; done) | (simp; omega))); intro g2 k2 s2)); (try (refine bone_elim hb (w.heap.size + 1 + 1 + 1) ?_ ?_; (focus (first | omega | (simp; done) | (simp; omega))); intro g3 k3 s3)); (try (with_reducible refine bone_elim hb _ sa ?_; intro ga ka sa)); (try (with_reducible refine bone_alloc hb ?_; intro ga ka sa))) | (go_at_call 44; (with_reducible refine (impl_IsMatrix _ _ _ _ _).mono ?_); rintro e w' ⟨rfl, hb⟩; obtain ⟨hc, hf, hk⟩ := bcell hb; have hz := hb.size; (try simp at hz); (try simp only [World.size_alloc] at hc hf hk); (try (refine bone_elim hb (w.heap.size) ?_ ?_; (focus (first | omega | (simp; done) | (simp; omega))); intro g0 k0 s0)); (try (refine bone_elim hb (w.heap.size + 1) ?_ ?_; (focus (first | omega | (simp; done) | (simp; omega))); intro g1 k1 s1)); (try (refine bone_elim hb (w.heap.size + 1 + 1) ?_ ?_; (focus (first | omega | (simp; done) | (simp; omega))); intro g2 k2 s2)); (try (refine bone_elim hb (w.heap.size + 1 + 1 + 1) ?_ ?_; (focus (first | omega | (simp; done) | (simp; omega))); intro g3 k3 s3)); (try (with_reducible refine bone_elim hb _ sa ?_; intro ga ka sa)); (try (with_reducible refine bone_alloc hb ?_; intro ga ka sa))))
        go_roundw
        case rel => exact ⟨i + 1, by omega, by simp; omega, by rw [HS.out, HK.out, HN.out]; rfl, (by repeat (first | (with_reducible exact Below.refl _ _) | (with_reducible assumption) | (with_reducible refine Below.drew ?_) | ((with_reducible refine bl_alloc ?_ ?_); (focus (first | omega | (simp; done) | (simp; omega)))) | ((with_reducible refine bl_set ?_ ?_); (focus (first | omega | (simp; done) | (simp; omega)))) | ((with_reducible refine bl_trans (by with_reducible assumption) ?_ ?_); (focus (first | omega | (simp; done) | (simp; omega)))))), (by (repeat' (first | (refine And.intro ?_ ?_) | (intro o))) <;> (first | omega | (go_simp; done) | (simp; omega))), (by (repeat' (first | (refine And.intro ?_ ?_) | (intro o))) <;> (first | omega | (go_simp; done) | (simp; omega))), (show Own4 _ _ (mulW (mpow m i) m).p (mulW (mpow m i) m).q (mulW (mpow m i) m).r (mulW (mpow m i) m).s from (by (repeat' (first | (refine And.intro ?_ ?_) | (intro o))) <;> (first | omega | (go_simp; done) | (simp; omega))))⟩
        case measure => simp [intOf]; omega
      | false =>
        have hn' : (num (mulW (mpow m i) m).p && num (mulW (mpow m i) m).q && num (mulW (mpow m i) m).r && num (mulW (mpow m i) m).s) = false := hn
        have e : B = false := HB.out.trans (okPow_mono (i := i + 1) (by rw [HS.out, HK.out, hn]; rfl) (by omega))
        have e2 : R = ⟨0, 0, 0, 0⟩ := HR.out.trans (by rw [powRes, ← HB.out, e]; rfl)
        clear hn HR HB
        subst e e2
        go_wp2_with (first | (go_at_call 43; (with_reducible refine (impl_times _ _ _).mono ?_); rintro e w' ⟨rfl, hb⟩; obtain ⟨hc, hf, hk⟩ := bcell hb; have hz := hb.size; (try simp at hz); (try simp only [World.size_alloc] at hc hf hk); (try (refine bone_elim hb (w.heap.size) ?_ ?_; (focus (first | omega | (simp; done) | (simp; omega))); intro g0 k0 s0)); (try (refine bone_elim hb (w.heap.size + 1) ?_ ?_; (focus (first | omega | (simp; done) | (simp; omega))); intro g1 k1 s1)); (try (refine bone_elim hb (w.heap.size + 1 + 1) ?_ ?_; (focus (first | omega | (simp; done) | (simp; omega))); intro g2 k2 s2)); (try (refine bone_elim hb (w.heap.size + 1 + 1 + 1) ?_ ?_; (focus (first | omega | (simp; done) | (simp; omega))); intro g3 k3 s3)); (try (with_reducible refine bone_elim hb _ sa ?_; intro ga ka sa)); (try (with_reducible refine bone_alloc hb ?_; intro ga ka sa))) | (go_at_call 44; (with_reducible refine (impl_IsMatrix _ _ _ _ _).mono ?_); rintro e w' ⟨rfl, hb⟩; obtain ⟨hc, hf, hk⟩ := bcell hb; have hz := hb.size; (try simp at hz); (try simp only [World.size_alloc] at hc hf hk); (try (refine bone_elim hb (w.heap.size) ?_ ?_; (focus (first | omega | (simp; done) | (simp; omega))); intro g0 k0 s0)); (try (refine bone_elim hb (w.heap.size + 1) ?_ ?_; (focus (first | omega | (simp; done) | (simp; omega))); intro g1 k1 s1)); (try (refine bone_elim hb (w.heap.size + 1 + 1) ?_ ?_; (focus (first | omega | (simp; done) | (simp; omega))); intro g2 k2 s2)); (try (refine bone_elim hb (w.heap.size + 1 + 1 + 1) ?_ ?_; (focus (first | omega | (simp; done) | (simp; omega))); intro g3 k3 s3)); (try (with_reducible refine bone_elim hb _ sa ?_; intro ga ka sa)); (try (with_reducible refine bone_alloc hb ?_; intro ga ka sa))))
        simp [bodyPost, results, Try.results14, go_sem, *]
        exact (by repeat (first | (with_reducible exact Below.refl _ _) | (with_reducible assumption) | (with_reducible refine Below.drew ?_) | ((with_reducible refine bl_alloc ?_ ?_); (focus (first | omega | (simp; done) | (simp; omega)))) | ((with_reducible refine bl_set ?_ ?_); (focus (first | omega | (simp; done) | (simp; omega)))) | ((with_reducible refine bl_trans (by with_reducible assumption) ?_ ?_); (focus (first | omega | (simp; done) | (simp; omega))))))
    · have hik : i = k.toNat := by omega
      have e : B = true := HB.out.trans (by rw [← hik]; exact HK.out)
      have e2 : R = mpow m i := HR.out.trans (by rw [powRes, ← HB.out, e, hik]; rfl)
      clear HR HB HK hik
      subst e e2
      go_wp2
      simp [bodyPost, results, Try.results14, go_sem, *]
      exact (by repeat (first | (with_reducible exact Below.refl _ _) | (with_reducible assumption) | (with_reducible refine Below.drew ?_) | ((with_reducible refine bl_alloc ?_ ?_); (focus (first | omega | (simp; done) | (simp; omega)))) | ((with_reducible refine bl_set ?_ ?_); (focus (first | omega | (simp; done) | (simp; omega)))) | ((with_reducible refine bl_trans (by with_reducible assumption) ?_ ?_); (focus (first | omega | (simp; done) | (simp; omega))))))

end Go.Proofs.Ytcldombcamjgaaa
