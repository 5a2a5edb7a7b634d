/- IsComposition: both sides say the same. -/
import Derived.Test.YtfljlpijhagloaaID
namespace Go.Proofs.Ytfljlpijhagloaa
open Go.RowKit
set_option linter.unusedSimpArgs false
set_option linter.unusedVariables false
set_option maxRecDepth 100000
set_option maxHeartbeats 2000000

/-- Congruent modulo the machine's size. -/
def cg (x y : Int) : Prop := ∃ t, x - y = 18446744073709551616 * t
theorem cg_refl (x : Int) : cg x x := ⟨0, by omega⟩
theorem cg_wrap (x : Int) : cg (wrap64 x) x := by
  refine ⟨(wrap64 x - x) / 18446744073709551616, ?_⟩
  unfold wrap64
  omega
theorem cg_iff {x y : Int} : wrap64 x = wrap64 y ↔ cg x y := by
  constructor
  · intro h
    obtain ⟨s, hs⟩ := cg_wrap x
    obtain ⟨t, ht⟩ := cg_wrap y
    exact ⟨t - s, by rw [Int.mul_sub]; omega⟩
  · rintro ⟨t, ht⟩
    unfold wrap64
    omega
theorem cg_trans {x y z : Int} (h : cg x y) (h2 : cg y z) : cg x z := by
  obtain ⟨s, hs⟩ := h
  obtain ⟨t, ht⟩ := h2
  exact ⟨s + t, by rw [Int.mul_add]; omega⟩
theorem cg_symm {x y : Int} (h : cg x y) : cg y x := by
  obtain ⟨s, hs⟩ := h
  exact ⟨-s, by rw [Int.mul_neg]; omega⟩
theorem cg_add {x y z w : Int} (h : cg x y) (h2 : cg z w) : cg (x + z) (y + w) := by
  obtain ⟨s, hs⟩ := h
  obtain ⟨t, ht⟩ := h2
  exact ⟨s + t, by rw [Int.mul_add]; omega⟩
theorem cg_mul {x y z w : Int} (h : cg x y) (h2 : cg z w) : cg (x * z) (y * w) := by
  obtain ⟨s, hs⟩ := h
  obtain ⟨t, ht⟩ := h2
  exact ⟨s * z + y * t, by grind⟩
theorem W_addl (x y : Int) : wrap64 (wrap64 x + y) = wrap64 (x + y) := cg_iff.2 (cg_add (cg_wrap x) (cg_refl y))
theorem W_addr (x y : Int) : wrap64 (x + wrap64 y) = wrap64 (x + y) := cg_iff.2 (cg_add (cg_refl x) (cg_wrap y))
theorem W_mull (x y : Int) : wrap64 (wrap64 x * y) = wrap64 (x * y) := cg_iff.2 (cg_mul (cg_wrap x) (cg_refl y))
theorem W_idem (x : Int) : wrap64 (wrap64 x) = wrap64 x := cg_iff.2 (cg_wrap x)
theorem W_mulr (x y : Int) : wrap64 (x * wrap64 y) = wrap64 (x * y) := cg_iff.2 (cg_mul (cg_refl x) (cg_wrap y))

theorem sq_vals (a b c d e f g o : Int) : sqF [a, b, c, d] [e, f, g, o] 16 = [wrap64 (a * e), wrap64 (a * f + b * e), wrap64 (b * f), wrap64 (a * g + c * e), wrap64 (a * o + b * g + c * f + d * e), wrap64 (b * o + d * f), wrap64 (c * g), wrap64 (c * o + d * g), wrap64 (d * o)] := by
  simp only [sqF, sqIx, List.set, List.getD_eq_getElem?_getD, List.getElem?_cons_zero, List.getElem?_cons_succ, Option.getD_some, W_addl, W_addr, W_mull, W_mulr, W_idem, Nat.reduceDiv, Nat.reduceMod, Nat.reduceAdd, Nat.reduceMul, Int.zero_add]
theorem co_vals (A B C a b c d e f g o : Int) : coF A B C [a, b, c, d, e, f, g, o] 16 = [
    wrap64 (A * a * a + B * a * e + C * e * e), wrap64 (A * a * b + B * a * f + C * e * f + (A * b * a + B * b * e + C * f * e)), wrap64 (A * b * b + B * b * f + C * f * f),
    wrap64 (A * a * c + B * a * g + C * e * g + (A * c * a + B * c * e + C * g * e)),
    wrap64 (A * a * d + B * a * o + C * e * o + (A * b * c + B * b * g + C * f * g) + (A * c * b + B * c * f + C * g * f) + (A * d * a + B * d * e + C * o * e)),
    wrap64 (A * b * d + B * b * o + C * f * o + (A * d * b + B * d * f + C * o * f)), wrap64 (A * c * c + B * c * g + C * g * g), wrap64 (A * c * d + B * c * o + C * g * o + (A * d * c + B * d * g + C * o * g)), wrap64 (A * d * d + B * d * o + C * o * o)] := by
  simp only [coF, coT, sqIx, List.set, List.getD_eq_getElem?_getD, List.getElem?_cons_zero, List.getElem?_cons_succ, Option.getD_some, W_addl, W_addr, W_mull, W_mulr, W_idem, Nat.reduceDiv, Nat.reduceMod, Nat.reduceAdd, Nat.reduceMul, Int.zero_add]
theorem imE_eq (A B C a b c d e f g o : Int) (m : Nat) (hm : m < 9) : imE A B C [a, b, c, d] [e, f, g, o] m = (coF A B C [a, b, c, d, e, f, g, o] 16).getD m 0 := by
  rw [co_vals]
  simp only [imE, sqL, sq_vals]
  have hm' : m = 0 ∨ m = 1 ∨ m = 2 ∨ m = 3 ∨ m = 4 ∨ m = 5 ∨ m = 6 ∨ m = 7 ∨ m = 8 := by omega
  rcases hm' with rfl | rfl | rfl | rfl | rfl | rfl | rfl | rfl | rfl <;>
    (simp only [List.getD_eq_getElem?_getD, List.getElem?_cons_zero, List.getElem?_cons_succ, Option.getD_some, W_addl, W_addr, W_mull, W_mulr, W_idem]; congr 1; grind)
theorem imOk_eq (x y z p q r A B C a b c d e f g o : Int) : imOk x y z p q r A B C [a, b, c, d] [e, f, g, o] = coOk x y z p q r A B C [a, b, c, d, e, f, g, o] := by
  rw [imOk, coOk, decide_eq_decide]
  exact forall_congr' fun m => forall_congr' fun hm => by rw [imE_eq _ _ _ _ _ _ _ _ _ _ _ m hm]

theorem impl_IsComposition (a b c d e f A B C : Int) (k : List Int) (hl : k.length ≤ 1048576) : AFun Try.prog 12 [] [Fo a b c, Fo d e f, Fo A B C, Vw k] (PQ (icO a b c d e f A B C k && coOk a b c d e f A B C k) (icO a b c d e f A B C k)) [] [] := by
  cases ho : icO a b c d e f A B C k with
  | false => rw [Bool.false_and]; exact impl_IsComposition0 a b c d e f A B C k hl ho
  | true =>
    have h8 : k.length = 8 := by
      simp only [icO, Bool.and_eq_true, decide_eq_true_eq] at ho
      exact ho.1.2
    match k, h8 with
    | [k0, k1, k2, k3, k4, k5, k6, k7], _ =>
      have := impl_IsComposition1 a b c d e f A B C k0 k1 k2 k3 k4 k5 k6 k7 ho
      rw [imOk_eq] at this
      rw [Bool.true_and]
      exact this

theorem claw_IsComposition (a b c d e f A B C : Int) (k : List Int) (hz : k.length ≤ 9223372036854775807) : AFun Try.prog 4 [] [Fo a b c, Fo d e f, Fo A B C, Vw k] (Bo true) [] [] := by
  have il := ints_len k
  refine afun_intro fn4 rfl rfl (by repeat' (first | exact trivial | (simp; done) | refine ⟨?_, ?_⟩)) ?_
  unfold ac4
  repeat' (first | ((with_reducible refine (?_ : (_ : Bool) = _)); (with_reducible rfl)) | ((with_reducible refine (?_ : (_ : Nat × Nat) = _)); (with_reducible rfl)) | (with_reducible refine leafRI ?_) | (with_reducible refine leafRB ?_) | (with_reducible refine leafI ?_) | (with_reducible refine leafB ?_) | ((with_reducible refine (?_ : (_ : Int) = _)); (with_reducible rfl)) | ((with_reducible refine (?_ : (_ : List (List Value)) = _)); (with_reducible rfl)) | ((with_reducible refine (?_ : (_ : Int) ≠ 0)); (first | assumption | omega | (simp; done) | (simp only [ints_len] at *; omega) | (simp; omega))) | ((with_reducible refine (?_ : (_ : Int) ≤ _)); (first | assumption | omega | (simp; done) | (simp only [ints_len] at *; omega) | (simp; omega))) | ((with_reducible refine (?_ : (_ : Int) < _)); (first | assumption | omega | (simp; done) | (simp only [ints_len] at *; omega) | (simp; omega))) | ((with_reducible refine (?_ : (_ : Nat) ≤ _)); (first | omega | (simp only [List.length_cons, List.length_nil]; omega) | (simp [ints]; done) | (simp; omega))) | ((with_reducible refine (?_ : (_ : Nat) < _)); (first | omega | (simp only [List.length_cons, List.length_nil]; omega) | (simp [ints]; done) | (simp; omega))) | ((with_reducible refine (?_ : (_ : Nat) = _)); (first | (with_reducible rfl) | (simp; done) | (simp only [fr_len]) | (simp only [ints_len]) | omega | (simp [*]; done))) | (refine And.intro ?_ ?_) | (intro h; first | (exact Bool.noConfusion h) | ((simp only [decide_eq_true_eq, decide_eq_false_iff_not, beq_iff_eq, bne_iff_ne, ne_eq, beq_eq_false_iff_ne, bne_eq_false_iff_eq, Bool.not_eq_true', Bool.not_eq_false', Bool.not_eq_true, Bool.not_eq_false, Int.not_le, Int.not_lt, Bool.and_eq_true, Bool.or_eq_true, Bool.or_eq_false_iff, Bool.and_eq_false_iff] at h); (try (first | (exact Bool.noConfusion h) | (exact (h trivial).elim)))) | skip) | ((refine (?_ : ACall _ _ _ _ _ _ _)); first | ((apply acall (laws_toForm _ _ _)); (focus (repeat' (first | exact rfl | (refine And.intro ?_ ?_) | (simp only [ints_len]; done) | (simp; done) | omega)))) | ((apply acall (laws_toIntS _ ?_)); (focus (repeat' (first | exact rfl | (refine And.intro ?_ ?_) | (simp only [ints_len]; done) | (simp; done) | omega)))) | ((apply acall (spec_IsComposition _ _ _ _ _ _ _ _ _ _ ?_)); (focus (repeat' (first | exact rfl | (refine And.intro ?_ ?_) | (simp only [ints_len]; done) | (simp; done) | omega)))) | ((apply acall (impl_IsComposition _ _ _ _ _ _ _ _ _ _ ?_)); (focus (repeat' (first | exact rfl | (refine And.intro ?_ ?_) | (simp only [ints_len]; done) | (simp; done) | omega)))) | ((apply acall (laws_eqIntS _ _ ?_ ?_)); (focus (repeat' (first | exact rfl | (refine And.intro ?_ ?_) | (simp only [ints_len]; done) | (simp; done) | omega))))) | ((with_reducible refine (?_ : chk _ _ = true)); kernel_rfl) | exact trivial | (refine Exists.intro _ (And.intro rfl ?_)))
  all_goals first | (simp only [ints_len] at *; omega) | simp_all

theorem law_IsComposition (a b c d e f A B C : Int) (k : List Int) (w : World) (hz : k.length ≤ 9223372036854775807) (v : Value) (hv : Came w k v) : Calls Try.prog 4 #[.agg #[.int .i64 a, .int .i64 b, .int .i64 c], .agg #[.int .i64 d, .int .i64 e, .int .i64 f], .agg #[.int .i64 A, .int .i64 B, .int .i64 C], v] w fun e w' => e = .returned (.bool (true)) ∧ Below w.heap.size w w' := by
  exact law_of_afunA (claw_IsComposition a b c d e f A B C k hz) w ⟨arg_plain (x := Fo a b c) rfl, arg_plain (x := Fo d e f) rfl, arg_plain (x := Fo A B C) rfl, arg_ints hv, trivial⟩
end Go.Proofs.Ytfljlpijhagloaa
