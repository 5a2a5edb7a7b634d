/- The law on Hilbert's symbols: joined. -/
import Derived.Test.YtkadphmllejmdaaRX
import Derived.Test.YtkadphmllejmdaaRY
import Derived.Test.YtkadphmllejmdaaRZ
namespace Go.Proofs.Ytkadphmllejmdaa
open Go.RowKit
set_option linter.unusedSimpArgs false
set_option linter.unusedVariables false
set_option maxRecDepth 100000
set_option maxHeartbeats 2000000

theorem cl_qAbs (n : Int) (h : -2000000000 ≤ n ∧ n ≤ 2000000000) : AFun Try.prog 9 [] [I n] (I n.natAbs) [] [] := laws_qAbs n (I64_small (by omega) (by omega)) (by omega)
theorem cl_impl {a b p s : Int} {g : Bool} (h1 : hiV a b p = s) (h2 : hiG a b p = g) : AFun Try.prog 6 [] [I a, I b, I p] (PI s g) [] [] := by
  have h := impl_HilbertSymbol a b p
  rw [h1, h2] at h
  exact h
theorem cl_spec {a b p s : Int} {g : Bool} (h1 : hiV a b p = s) (h2 : hiG a b p = g) : AFun Try.prog 7 [] [I a, I b, I p] (PI s g) [] [] := by
  have h := spec_HilbertSymbol a b p
  rw [h1, h2] at h
  exact h
theorem cl_class {b p s : Int} {g : Bool} (h1 : lcV b p = s) (h2 : lcG b p = g) : AFun Try.prog 10 [] [I b, I p] (PI s g) [] [] := by
  have h := impl_LocalClassOf b p
  rw [h1, h2] at h
  exact h

theorem claw_HilbertSymbols (v v' : Value) (l l' : List Int) (hl : l.length ≤ 9223372036854775807) (hb : ∀ n ∈ l, 0 ≤ n ∧ n ≤ 255) (hb' : ∀ n ∈ l', 0 ≤ n ∧ n ≤ 255) : AFun Try.prog 3 [] [By v l, By v' l'] (Bo true) [] [] := by
  have hc := laws_big v v' l l' hl
  by_cases hbig : 1048576 < l.length ∨ 1048576 - l.length < l'.length
  · rw [show (decide (1048576 < l.length) || decide (1048576 - l.length < l'.length)) = true by simp only [Bool.or_eq_true, decide_eq_true_eq]; omega] at hc
    refine afun_intro fn3 rfl rfl (by repeat' (first | exact trivial | (simp; done) | refine ⟨?_, ?_⟩)) ?_
    unfold ac3
    repeat' (first | ((with_reducible refine (?_ : (_ : Bool) = _)); (with_reducible rfl)) | ((with_reducible refine (?_ : (_ : Nat × Nat) = _)); (with_reducible rfl)) | (with_reducible refine leafRI ?_) | (with_reducible refine leafRB ?_) | (with_reducible refine leafI ?_) | (with_reducible refine leafB ?_) | ((with_reducible refine (?_ : (_ : Int) = _)); (with_reducible rfl)) | ((with_reducible refine (?_ : (_ : List (List Value)) = _)); (with_reducible rfl)) | ((with_reducible refine (?_ : (_ : Int) ≠ 0)); (first | assumption | omega | (simp; done) | (simp only [ints_len] at *; omega) | (simp; omega))) | ((with_reducible refine (?_ : (_ : Int) ≤ _)); (first | assumption | omega | (simp; done) | (simp only [ints_len] at *; omega) | (simp; omega))) | ((with_reducible refine (?_ : (_ : Int) < _)); (first | assumption | omega | (simp; done) | (simp only [ints_len] at *; omega) | (simp; omega))) | ((with_reducible refine (?_ : (_ : Nat) ≤ _)); (first | omega | (simp only [List.length_cons, List.length_nil]; omega) | (simp [ints]; done) | (simp; omega))) | ((with_reducible refine (?_ : (_ : Nat) < _)); (first | omega | (simp only [List.length_cons, List.length_nil]; omega) | (simp [ints]; done) | (simp; omega))) | ((with_reducible refine (?_ : (_ : Nat) = _)); (first | (with_reducible rfl) | (simp; done) | (simp only [fr_len]) | (simp only [ints_len]) | omega | (simp [*]; done))) | (refine And.intro ?_ ?_) | (intro h; first | (exact Bool.noConfusion h) | ((simp only [decide_eq_true_eq, decide_eq_false_iff_not, beq_iff_eq, bne_iff_ne, ne_eq, beq_eq_false_iff_ne, bne_eq_false_iff_eq, Bool.not_eq_true', Bool.not_eq_false', Bool.not_eq_true, Bool.not_eq_false, Int.not_le, Int.not_lt, Bool.and_eq_true, Bool.or_eq_true, Bool.or_eq_false_iff, Bool.and_eq_false_iff] at h); (try (first | (exact Bool.noConfusion h) | (exact (h trivial).elim)))) | skip) | ((refine (?_ : ACall _ _ _ _ _ _ _)); first | ((apply acall (hc)); (focus ((repeat' (first | exact rfl | (refine And.intro ?_ ?_) | (simp only [ints_len]; done))); done)))) | ((with_reducible refine (?_ : chk _ _ = true)); kernel_rfl) | ((with_reducible refine (?_ : (_ : IntKind) = _)); (with_reducible rfl)) | ((with_reducible refine (?_ : eqC (C.pvw _ _ _) (C.pvw _ _ _))); exact rfl) | ((with_reducible refine (?_ : eqC (C.pv (Value.int IntKind.u64 _)) _)); exact rfl) | exact trivial)
  rw [show (decide (1048576 < l.length) || decide (1048576 - l.length < l'.length)) = false by rw [Bool.or_eq_false_iff, decide_eq_false_iff_not, decide_eq_false_iff_not]; omega] at hc
  obtain ⟨a, b, p, ia, ib, ip, d1⟩ := DrawHilbertSymbol_ex v l ⟨by omega, hb⟩
  obtain ⟨c0, q, _, _, d2⟩ := DrawIsLocalSquare_ex v' l' ⟨by omega, hb'⟩
  have h1 := spec_SymbolPlaces a b
  have h2 := impl_SymbolPlaces a b
  have L0 := spV_len a b
  have L1 := spV_even a b
  have L2 : ∀ x ∈ spV a b, AFun Try.prog 6 [] [I a, I b, I x] (PI (-1) true) [] [] := fun x hx => cl_impl (spV_mem hx).2 (spV_mem hx).1
  by_cases hg : hiG a b p = true
  · have hc1 : (c0.tmod 1000).natAbs < 1000 := by
      rw [Int.natAbs_tmod]
      exact Nat.mod_lt _ (by decide)
    obtain ⟨s1, s2, n1, n2, c1, w1, b1, m1, m2, l1, l3, l2⟩ := hg_ok (c0.tmod 1000) hc1 hg
    have k1 := cl_impl (rfl : hiV a b p = hiV a b p) hg
    have k2 := cl_spec (rfl : hiV a b p = hiV a b p) hg
    have k3 := cl_impl s2 s1
    have k4 := cl_impl n2 n1
    have k7 := cl_class (rfl : lcV b p = lcV b p) l1
    have hr := cl_qAbs (lcV b p) (by omega)
    have hq := cl_qAbs (b * c0.tmod 1000) (by omega)
    rw [← w1] at m1 m2
    by_cases hz : c0.tmod 1000 = 0
    · have k5 := cl_impl (rfl : hiV a (c0.tmod 1000) p = hiV a (c0.tmod 1000) p) (c1.trans (decide_eq_false (by simpa using hz)))
      have k6 := cl_impl (rfl : hiV a (wrap64 (b * c0.tmod 1000)) p = hiV a (wrap64 (b * c0.tmod 1000)) p) (m1.trans (show (decide (c0.tmod 1000 ≠ 0) && _) = false by rw [hz]; rfl))
      by_cases hD : ((lcV b p).natAbs : Int) ≤ 1000000
      · exact hs_A1 v v' l l' _ _ a b c0 p q _ _ _ _ hc ia ib ip d1 d2 0 _ k1 k2 k3 k4 k5 k6 k7 hr hD (cl_impl (l2 hD).2 (l2 hD).1) hz h1 h2 L0 L1 L2
      · exact hs_A2 v v' l l' _ _ a b c0 p q _ _ _ _ hc ia ib ip d1 d2 0 _ k1 k2 k3 k4 k5 k6 k7 hr hD hz h1 h2 L0 L1 L2
    · have k5 := cl_impl (rfl : hiV a (c0.tmod 1000) p = hiV a (c0.tmod 1000) p) (c1.trans (decide_eq_true hz))
      by_cases hQ : ((b * c0.tmod 1000).natAbs : Int) ≤ 1000000
      · have e6 : hiG a (wrap64 (b * c0.tmod 1000)) p = true := m1.trans (by rw [w1, decide_eq_true hz, decide_eq_true hQ]; rfl)
        have k6 := cl_impl (m2 e6) e6
        rw [← w1] at hq
        by_cases hD : ((lcV b p).natAbs : Int) ≤ 1000000
        · exact hs_B1 v v' l l' _ _ a b c0 p q _ _ 0 _ hc ia ib ip d1 d2 _ _ k1 k2 k3 k4 k5 k6 k7 hr hD (cl_impl (l2 hD).2 (l2 hD).1) hz hq (by rw [w1]; exact hQ) h1 h2 L0 L1 L2
        · exact hs_B2 v v' l l' _ _ a b c0 p q _ _ 0 _ hc ia ib ip d1 d2 _ _ k1 k2 k3 k4 k5 k6 k7 hr hD hz hq (by rw [w1]; exact hQ) h1 h2 L0 L1 L2
      · have k6 := cl_impl (rfl : hiV a (wrap64 (b * c0.tmod 1000)) p = hiV a (wrap64 (b * c0.tmod 1000)) p) (m1.trans (by rw [w1, decide_eq_false hQ, Bool.and_false]))
        rw [← w1] at hq
        by_cases hD : ((lcV b p).natAbs : Int) ≤ 1000000
        · exact hs_C1 v v' l l' _ _ a b c0 p q _ _ _ _ hc ia ib ip d1 d2 _ _ k1 k2 k3 k4 k5 k6 k7 hr hD (cl_impl (l2 hD).2 (l2 hD).1) hz hq (by rw [w1]; exact hQ) h1 h2 L0 L1 L2
        · exact hs_C2 v v' l l' _ _ a b c0 p q _ _ _ _ hc ia ib ip d1 d2 _ _ k1 k2 k3 k4 k5 k6 k7 hr hD hz hq (by rw [w1]; exact hQ) h1 h2 L0 L1 L2
  · have hg' : hiG a b p = false := by simpa using hg
    exact hs_N v v' l l' _ _ a b c0 p q _ 0 0 0 hc ia ib ip d1 d2 (cl_impl rfl hg') (cl_spec rfl hg') h1 h2 L0 L1 L2

theorem law_HilbertSymbols (l : List Int) (k : List Int) (w : World) (v : Value) (hv : CameB w l v) (u : Value) (hu : CameB w k u) : Calls Try.prog 3 #[v, u] w fun e w' => e = .returned (.bool (true)) ∧ Below w.heap.size w w' := by
  exact law_of_afunA (claw_HilbertSymbols v u l k hv.len hv.byte hu.byte) w ⟨⟨rfl, hv.view⟩, ⟨rfl, hu.view⟩, trivial⟩
end Go.Proofs.Ytkadphmllejmdaa
