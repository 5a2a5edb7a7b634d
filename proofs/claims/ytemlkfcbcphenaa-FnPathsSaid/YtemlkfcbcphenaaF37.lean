/- PathTo. -/
import Derived.Test.YtemlkfcbcphenaaF13
import Derived.Test.YtemlkfcbcphenaaF36
namespace Go.Proofs.Ytemlkfcbcphenaa
set_option linter.unusedSimpArgs false
set_option linter.unusedVariables false
open Go.RowKit
set_option maxRecDepth 100000
set_option maxHeartbeats 2000000

theorem spec_l1Sign (n : Int) : AFun Try.prog 48 [] [I n] (I n.sign) [] [] := by
  refine afun_intro fn48 rfl rfl (by repeat' (first | exact trivial | (simp; done) | refine ⟨?_, ?_⟩)) ?_
  unfold ac48
  repeat' (first | ((with_reducible refine (?_ : (_ : Bool) = _)); (with_reducible rfl)) | ((with_reducible refine (?_ : (_ : Nat × Nat) = _)); (with_reducible rfl)) | (with_reducible refine leafRI ?_) | (with_reducible refine leafRB ?_) | (with_reducible refine leafI ?_) | (with_reducible refine leafB ?_) | ((with_reducible refine (?_ : (_ : Int) = _)); (with_reducible rfl)) | ((with_reducible refine (?_ : (_ : List (List Value)) = _)); (with_reducible rfl)) | ((with_reducible refine (?_ : (_ : Int) ≠ 0)); (first | assumption | omega | (simp; done) | (simp only [ints_len] at *; omega) | (simp; omega))) | ((with_reducible refine (?_ : (_ : Int) ≤ _)); (first | assumption | omega | (simp; done) | (simp only [ints_len] at *; omega) | (simp; omega))) | ((with_reducible refine (?_ : (_ : Int) < _)); (first | assumption | omega | (simp; done) | (simp only [ints_len] at *; omega) | (simp; omega))) | ((with_reducible refine (?_ : (_ : Nat) ≤ _)); (first | omega | (simp only [List.length_cons, List.length_nil]; omega) | (simp [ints]; done) | (simp; omega))) | ((with_reducible refine (?_ : (_ : Nat) < _)); (first | omega | (simp only [List.length_cons, List.length_nil]; omega) | (simp [ints]; done) | (simp; omega))) | ((with_reducible refine (?_ : (_ : Nat) = _)); (first | (with_reducible rfl) | (simp; done) | (simp only [fr_len]) | (simp only [ints_len]) | omega | (simp [*]; done))) | (refine And.intro ?_ ?_) | (intro h; first | (exact Bool.noConfusion h) | ((simp only [decide_eq_true_eq, decide_eq_false_iff_not, beq_iff_eq, bne_iff_ne, ne_eq, beq_eq_false_iff_ne, bne_eq_false_iff_eq, Bool.not_eq_true', Bool.not_eq_false', Bool.not_eq_true, Bool.not_eq_false, Int.not_le, Int.not_lt, Bool.and_eq_true, Bool.or_eq_true, Bool.or_eq_false_iff, Bool.and_eq_false_iff] at h); (try (first | (exact Bool.noConfusion h) | (exact (h trivial).elim)))) | skip) | ((with_reducible refine (?_ : chk _ _ = true)); kernel_rfl) | ((with_reducible refine (?_ : (_ : IntKind) = _)); (with_reducible rfl)) | ((with_reducible refine (?_ : eqC (C.pvw _ _ _) (C.pvw _ _ _))); exact rfl) | ((with_reducible refine (?_ : eqC (C.pv (Value.int IntKind.u64 _)) _)); exact rfl) | exact trivial)
  · exact (Int.sign_eq_one_of_pos h).symm
  · exact (Int.sign_eq_neg_one_of_neg h).symm
  · rw [show n = 0 by omega]; rfl

theorem impl_sign (n : Int) : AFun Try.prog 58 [] [I n] (I n.sign) [] [] := by
  refine afun_intro fn58 rfl rfl (by repeat' (first | exact trivial | (simp; done) | refine ⟨?_, ?_⟩)) ?_
  unfold ac58
  repeat' (first | ((with_reducible refine (?_ : (_ : Bool) = _)); (with_reducible rfl)) | ((with_reducible refine (?_ : (_ : Nat × Nat) = _)); (with_reducible rfl)) | (with_reducible refine leafRI ?_) | (with_reducible refine leafRB ?_) | (with_reducible refine leafI ?_) | (with_reducible refine leafB ?_) | ((with_reducible refine (?_ : (_ : Int) = _)); (with_reducible rfl)) | ((with_reducible refine (?_ : (_ : List (List Value)) = _)); (with_reducible rfl)) | ((with_reducible refine (?_ : (_ : Int) ≠ 0)); (first | assumption | omega | (simp; done) | (simp only [ints_len] at *; omega) | (simp; omega))) | ((with_reducible refine (?_ : (_ : Int) ≤ _)); (first | assumption | omega | (simp; done) | (simp only [ints_len] at *; omega) | (simp; omega))) | ((with_reducible refine (?_ : (_ : Int) < _)); (first | assumption | omega | (simp; done) | (simp only [ints_len] at *; omega) | (simp; omega))) | ((with_reducible refine (?_ : (_ : Nat) ≤ _)); (first | omega | (simp only [List.length_cons, List.length_nil]; omega) | (simp [ints]; done) | (simp; omega))) | ((with_reducible refine (?_ : (_ : Nat) < _)); (first | omega | (simp only [List.length_cons, List.length_nil]; omega) | (simp [ints]; done) | (simp; omega))) | ((with_reducible refine (?_ : (_ : Nat) = _)); (first | (with_reducible rfl) | (simp; done) | (simp only [fr_len]) | (simp only [ints_len]) | omega | (simp [*]; done))) | (refine And.intro ?_ ?_) | (intro h; first | (exact Bool.noConfusion h) | ((simp only [decide_eq_true_eq, decide_eq_false_iff_not, beq_iff_eq, bne_iff_ne, ne_eq, beq_eq_false_iff_ne, bne_eq_false_iff_eq, Bool.not_eq_true', Bool.not_eq_false', Bool.not_eq_true, Bool.not_eq_false, Int.not_le, Int.not_lt, Bool.and_eq_true, Bool.or_eq_true, Bool.or_eq_false_iff, Bool.and_eq_false_iff] at h); (try (first | (exact Bool.noConfusion h) | (exact (h trivial).elim)))) | skip) | ((with_reducible refine (?_ : chk _ _ = true)); kernel_rfl) | ((with_reducible refine (?_ : (_ : IntKind) = _)); (with_reducible rfl)) | ((with_reducible refine (?_ : eqC (C.pvw _ _ _) (C.pvw _ _ _))); exact rfl) | ((with_reducible refine (?_ : eqC (C.pv (Value.int IntKind.u64 _)) _)); exact rfl) | exact trivial)
  · exact (Int.sign_eq_one_of_pos h).symm
  · exact (Int.sign_eq_neg_one_of_neg h).symm
  · rw [show n = 0 by omega]; rfl


/-- The program's side of a point, at the edge of p and q. -/
def sdV (s p q : P2) : Int := wrap64 ((wrap64 (tn s q * tn p q)).sign * (wrap64 (tn p s * tn p q)).sign)
abbrev Vq (p : P2) : V := .c (.vptr [.int .i64 p.1, .int .i64 p.2] 0)

theorem impl_side (a b : Int) (q p : P2) : AFun Try.prog 57 [] [Po2 a b, Vq q, Vq p] (I (sdV (a, b) p q)) [] [] := by
  refine afun_intro fn57 rfl rfl (by repeat' (first | exact trivial | (simp; done) | refine ⟨?_, ?_⟩)) ?_
  unfold ac57
  repeat' (first | ((with_reducible refine (?_ : (_ : Bool) = _)); (with_reducible rfl)) | ((with_reducible refine (?_ : (_ : Nat × Nat) = _)); (with_reducible rfl)) | (with_reducible refine leafRI ?_) | (with_reducible refine leafRB ?_) | (with_reducible refine leafI ?_) | (with_reducible refine leafB ?_) | ((with_reducible refine (?_ : (_ : Int) = _)); (with_reducible rfl)) | ((with_reducible refine (?_ : (_ : List (List Value)) = _)); (with_reducible rfl)) | ((with_reducible refine (?_ : (_ : Int) ≠ 0)); (first | assumption | omega | (simp; done) | (simp only [ints_len] at *; omega) | (simp; omega))) | ((with_reducible refine (?_ : (_ : Int) ≤ _)); (first | assumption | omega | (simp; done) | (simp only [ints_len] at *; omega) | (simp; omega))) | ((with_reducible refine (?_ : (_ : Int) < _)); (first | assumption | omega | (simp; done) | (simp only [ints_len] at *; omega) | (simp; omega))) | ((with_reducible refine (?_ : (_ : Nat) ≤ _)); (first | omega | (simp only [List.length_cons, List.length_nil]; omega) | (simp [ints]; done) | (simp; omega))) | ((with_reducible refine (?_ : (_ : Nat) < _)); (first | omega | (simp only [List.length_cons, List.length_nil]; omega) | (simp [ints]; done) | (simp; omega))) | ((with_reducible refine (?_ : (_ : Nat) = _)); (first | (with_reducible rfl) | (simp; done) | (simp only [fr_len]) | (simp only [ints_len]) | omega | (simp [*]; done))) | (refine And.intro ?_ ?_) | (intro h; first | (exact Bool.noConfusion h) | ((simp only [decide_eq_true_eq, decide_eq_false_iff_not, beq_iff_eq, bne_iff_ne, ne_eq, beq_eq_false_iff_ne, bne_eq_false_iff_eq, Bool.not_eq_true', Bool.not_eq_false', Bool.not_eq_true, Bool.not_eq_false, Int.not_le, Int.not_lt, Bool.and_eq_true, Bool.or_eq_true, Bool.or_eq_false_iff, Bool.and_eq_false_iff] at h); (try (first | (exact Bool.noConfusion h) | (exact (h trivial).elim)))) | skip) | ((refine (?_ : ACall _ _ _ _ _ _ _)); first | ((apply acall (impl_turn _ _ _ _)); (focus (repeat' (first | exact rfl | (refine And.intro ?_ ?_) | (simp only [ints_len]; done) | (simp; done) | omega)))) | ((apply acall (impl_sign _)); (focus (repeat' (first | exact rfl | (refine And.intro ?_ ?_) | (simp only [ints_len]; done) | (simp; done) | omega))))) | ((with_reducible refine (?_ : chk _ _ = true)); kernel_rfl) | ((with_reducible refine (?_ : (_ : IntKind) = _)); (with_reducible rfl)) | ((with_reducible refine (?_ : eqC (C.pvw _ _ _) (C.pvw _ _ _))); exact rfl) | ((with_reducible refine (?_ : eqC (C.pv (Value.int IntKind.u64 _)) _)); exact rfl) | exact trivial)
  all_goals rfl

theorem sdV_eq {s p q : P2} (hs : Nm2 s) (hp : Nm2 p) (hq : Nm2 q) (d : det p q = 1 ∨ det p q = -1) : sdV s p q = -((det s p).sign * (det s q).sign) := by
  have sb : ∀ x : Int, x.sign = 1 ∨ x.sign = -1 ∨ x.sign = 0 := fun x => by
    by_cases h : x = 0
    · subst h; simp
    · rcases sgn_or h with e | e <;> simp [e]
  have bd : ∀ u v : P2, Nm2 u → Nm2 v → -2000000000000 ≤ det u v ∧ det u v ≤ 2000000000000 := fun u v hu hv => by
    have m1 := mul_bd (a := u.1) (b := v.2) (A := 1000000) (B := 1000000) hu.x1 hu.x2 hv.y1 hv.y2
    have m2 := mul_bd (a := u.2) (b := v.1) (A := 1000000) (B := 1000000) hu.y1 hu.y2 hv.x1 hv.x2
    unfold det; omega
  have b1 := bd s q hs hq
  have b2 := bd p s hp hs
  unfold sdV
  rw [tn_det hs hq, tn_det hp hq, tn_det hp hs]
  rw [det_anti s p] at *
  have e : (wrap64 (det s q * det p q)).sign * (wrap64 (-(det s p) * det p q)).sign = -((det s p).sign * (det s q).sign) := by
    rcases d with e | e <;> rw [e]
    · rw [Int.mul_one, Int.mul_one, wrap_small (by omega) (by omega), wrap_small (by omega) (by omega), Int.sign_neg, Int.mul_neg, Int.mul_comm]
    · rw [wrap_small (by omega) (by omega), wrap_small (by omega) (by omega), show det s q * -1 = -det s q by omega, show -(det s p) * -1 = det s p by omega, Int.sign_neg, Int.neg_mul, Int.mul_comm]
  rw [e]
  rcases sb (det s p) with f | f | f <;> rcases sb (det s q) with g | g | g <;> rw [f, g] <;> exact wrap_small (by decide) (by decide)

theorem beh_eq {t : P2} {s : N6} (S : SG s) (ht : Nm2 t) (hp : det t s.2.1 ≠ 0) (hq : det t s.2.2 ≠ 0) : (sdV t s.2.1 s.2.2 != sdV s.1 s.2.1 s.2.2) = decide (bhS t s) := by
  rw [sdV_eq ht S.rp.nm S.rq.nm S.dpq, sdV_eq S.ro.nm S.rp.nm S.rq.nm S.dpq, Bool.eq_iff_iff]
  simp only [bne_iff_ne, ne_eq, decide_eq_true_eq]
  unfold bhS
  have a1 := det_anti s.2.1 s.1
  have a2 := det_anti s.2.2 s.1
  have k1 := S.dpo
  have k2 := S.dqo
  rw [a1, a2]
  rcases sgn_or hp with e1 | e1 <;> rcases sgn_or hq with e2 | e2 <;> rcases k1 with f1 | f1 <;> rcases k2 with f2 | f2 <;> rw [e1, e2, f1, f2] <;> decide

theorem impl_isBehind (n : N6) (i : Int) (t : P2) (G : NG n) (T : Nm2 t) (hp : det t (spl n i).2.1 ≠ 0) (hq : det t (spl n i).2.2 ≠ 0) : AFun Try.prog 40 [] [Nd n, I i, Po2 t.1 t.2] (Bo (decide (bhS t (spl n i)))) [] [] := by
  have hsp := impl_without n.1.1 n.1.2 n.2.1.1 n.2.1.2 n.2.2.1 n.2.2.2 i
  change AFun _ _ _ _ (PP3b (spl n i)) _ _ at hsp
  have S := spl_SG i G
  have hb := beh_eq S T hp hq
  generalize spl n i = s at *
  refine afun_intro fn40 rfl rfl (by repeat' (first | exact trivial | (simp; done) | refine ⟨?_, ?_⟩)) ?_
  unfold ac40
  repeat' (first | ((with_reducible refine (?_ : (_ : Bool) = _)); (with_reducible rfl)) | ((with_reducible refine (?_ : (_ : Nat × Nat) = _)); (with_reducible rfl)) | (with_reducible refine leafRI ?_) | (with_reducible refine leafRB ?_) | (with_reducible refine leafI ?_) | (with_reducible refine leafB ?_) | ((with_reducible refine (?_ : (_ : Int) = _)); (with_reducible rfl)) | ((with_reducible refine (?_ : (_ : List (List Value)) = _)); (with_reducible rfl)) | ((with_reducible refine (?_ : (_ : Int) ≠ 0)); (first | assumption | omega | (simp; done) | (simp only [ints_len] at *; omega) | (simp; omega))) | ((with_reducible refine (?_ : (_ : Int) ≤ _)); (first | assumption | omega | (simp; done) | (simp only [ints_len] at *; omega) | (simp; omega))) | ((with_reducible refine (?_ : (_ : Int) < _)); (first | assumption | omega | (simp; done) | (simp only [ints_len] at *; omega) | (simp; omega))) | ((with_reducible refine (?_ : (_ : Nat) ≤ _)); (first | omega | (simp only [List.length_cons, List.length_nil]; omega) | (simp [ints]; done) | (simp; omega))) | ((with_reducible refine (?_ : (_ : Nat) < _)); (first | omega | (simp only [List.length_cons, List.length_nil]; omega) | (simp [ints]; done) | (simp; omega))) | ((with_reducible refine (?_ : (_ : Nat) = _)); (first | (with_reducible rfl) | (simp; done) | (simp only [fr_len]) | (simp only [ints_len]) | omega | (simp [*]; done))) | (refine And.intro ?_ ?_) | (intro h; first | (exact Bool.noConfusion h) | ((simp only [decide_eq_true_eq, decide_eq_false_iff_not, beq_iff_eq, bne_iff_ne, ne_eq, beq_eq_false_iff_ne, bne_eq_false_iff_eq, Bool.not_eq_true', Bool.not_eq_false', Bool.not_eq_true, Bool.not_eq_false, Int.not_le, Int.not_lt, Bool.and_eq_true, Bool.or_eq_true, Bool.or_eq_false_iff, Bool.and_eq_false_iff] at h); (try (first | (exact Bool.noConfusion h) | (exact (h trivial).elim)))) | skip) | ((refine (?_ : ACall _ _ _ _ _ _ _)); first | ((apply acall (hsp)); (focus (repeat' (first | exact rfl | (refine And.intro ?_ ?_) | (simp only [ints_len]; done) | (simp; done) | omega))))) | ((with_reducible refine (?_ : isUser _ _ = true)); kernel_rfl) | ((refine (?_ : ACallC _ _ _ _ _ _ _ _)); (apply acallc (impl_side _ _ s.2.2 s.2.1)); (focus (repeat' (first | exact rfl | (refine And.intro ?_ ?_) | (simp; done) | omega))); (focus (repeat' (first | exact rfl | (refine And.intro ?_ ?_) | (simp; done)))); (focus (exact rfl))) | ((with_reducible refine (?_ : chk _ _ = true)); kernel_rfl) | ((with_reducible refine (?_ : (_ : IntKind) = _)); (with_reducible rfl)) | ((with_reducible refine (?_ : eqC (C.pvw _ _ _) (C.pvw _ _ _))); exact rfl) | ((with_reducible refine (?_ : eqC (C.pv (Value.int IntKind.u64 _)) _)); exact rfl) | exact trivial)
  exact hb

theorem pt_eta {t u : P2} : t = u ↔ t.1 = u.1 ∧ t.2 = u.2 := Prod.ext_iff

theorem impl_towards (n : N6) (t : P2) (V : PV t n) (ht : Rg t) (hs : Sm t) : AFun Try.prog 23 [] [Nd n, Po2 t.1 t.2] (I (tow t n)) [] [] := by
  by_cases hm : t = n.1 ∨ t = n.2.1 ∨ t = n.2.2
  · have hz : tow t n = 0 := by unfold tow; rw [if_pos hm]
    simp only [pt_eta] at hm
    rw [hz]
    refine afun_intro fn23 rfl rfl (by repeat' (first | exact trivial | (simp; done) | refine ⟨?_, ?_⟩)) ?_
    unfold ac23
    repeat' (first | ((with_reducible refine (?_ : (_ : Bool) = _)); (with_reducible rfl)) | ((with_reducible refine (?_ : (_ : Nat × Nat) = _)); (with_reducible rfl)) | (with_reducible refine leafRI ?_) | (with_reducible refine leafRB ?_) | (with_reducible refine leafI ?_) | (with_reducible refine leafB ?_) | ((with_reducible refine (?_ : (_ : Int) = _)); (with_reducible rfl)) | ((with_reducible refine (?_ : (_ : List (List Value)) = _)); (with_reducible rfl)) | ((with_reducible refine (?_ : (_ : Int) ≠ 0)); (first | assumption | omega | (simp; done) | (simp only [ints_len] at *; omega) | (simp; omega))) | ((with_reducible refine (?_ : (_ : Int) ≤ _)); (first | assumption | omega | (simp; done) | (simp only [ints_len] at *; omega) | (simp; omega))) | ((with_reducible refine (?_ : (_ : Int) < _)); (first | assumption | omega | (simp; done) | (simp only [ints_len] at *; omega) | (simp; omega))) | ((with_reducible refine (?_ : (_ : Nat) ≤ _)); (first | omega | (simp only [List.length_cons, List.length_nil]; omega) | (simp [ints]; done) | (simp; omega))) | ((with_reducible refine (?_ : (_ : Nat) < _)); (first | omega | (simp only [List.length_cons, List.length_nil]; omega) | (simp [ints]; done) | (simp; omega))) | ((with_reducible refine (?_ : (_ : Nat) = _)); (first | (with_reducible rfl) | (simp; done) | (simp only [fr_len]) | (simp only [ints_len]) | omega | (simp [*]; done))) | (refine And.intro ?_ ?_) | (intro h; first | (exact Bool.noConfusion h) | ((simp only [decide_eq_true_eq, decide_eq_false_iff_not, beq_iff_eq, bne_iff_ne, ne_eq, beq_eq_false_iff_ne, bne_eq_false_iff_eq, Bool.not_eq_true', Bool.not_eq_false', Bool.not_eq_true, Bool.not_eq_false, Int.not_le, Int.not_lt, Bool.and_eq_true, Bool.or_eq_true, Bool.or_eq_false_iff, Bool.and_eq_false_iff] at h); (try (first | (exact Bool.noConfusion h) | (exact (h trivial).elim)))) | skip) | ((with_reducible refine (?_ : chk _ _ = true)); kernel_rfl) | ((with_reducible refine (?_ : (_ : IntKind) = _)); (with_reducible rfl)) | ((with_reducible refine (?_ : eqC (C.pvw _ _ _) (C.pvw _ _ _))); exact rfl) | ((with_reducible refine (?_ : eqC (C.pv (Value.int IntKind.u64 _)) _)); exact rfl) | exact trivial)
    all_goals (exfalso; simp only [Bool.true_eq_false, or_false] at *; omega)
  · have hne : t ≠ n.1 ∧ t ≠ n.2.1 ∧ t ≠ n.2.2 := ⟨fun e => hm (.inl e), fun e => hm (.inr (.inl e)), fun e => hm (.inr (.inr e))⟩
    have d1 : det t n.1 ≠ 0 := fun e => hne.1 (det_zero ht V.g.ru e)
    have d2 : det t n.2.1 ≠ 0 := fun e => hne.2.1 (det_zero ht V.g.rv e)
    have d3 : det t n.2.2 ≠ 0 := fun e => hne.2.2 (det_zero ht V.g.rw e)
    have htow : tow t n = if bhS t (spl n 1) then 1 else if bhS t (spl n 2) then 2 else 3 := by unfold tow; rw [if_neg hm]
    simp only [pt_eta] at hm
    have hdd : ∀ i, det t (spl n i).2.1 ≠ 0 ∧ det t (spl n i).2.2 ≠ 0 := fun i => by
      unfold spl; split
      · exact ⟨d2, d3⟩
      · split
        · exact ⟨d1, d3⟩
        · exact ⟨d1, d2⟩
    have hB := fun i => impl_isBehind n i t V.g hs.nm (hdd i).1 (hdd i).2
    refine afun_intro fn23 rfl rfl (by repeat' (first | exact trivial | (simp; done) | refine ⟨?_, ?_⟩)) ?_
    unfold ac23
    repeat' (first | ((with_reducible refine (?_ : (_ : Bool) = _)); (with_reducible rfl)) | ((with_reducible refine (?_ : (_ : Nat × Nat) = _)); (with_reducible rfl)) | (with_reducible refine leafRI ?_) | (with_reducible refine leafRB ?_) | (with_reducible refine leafI ?_) | (with_reducible refine leafB ?_) | ((with_reducible refine (?_ : (_ : Int) = _)); (with_reducible rfl)) | ((with_reducible refine (?_ : (_ : List (List Value)) = _)); (with_reducible rfl)) | ((with_reducible refine (?_ : (_ : Int) ≠ 0)); (first | assumption | omega | (simp; done) | (simp only [ints_len] at *; omega) | (simp; omega))) | ((with_reducible refine (?_ : (_ : Int) ≤ _)); (first | assumption | omega | (simp; done) | (simp only [ints_len] at *; omega) | (simp; omega))) | ((with_reducible refine (?_ : (_ : Int) < _)); (first | assumption | omega | (simp; done) | (simp only [ints_len] at *; omega) | (simp; omega))) | ((with_reducible refine (?_ : (_ : Nat) ≤ _)); (first | omega | (simp only [List.length_cons, List.length_nil]; omega) | (simp [ints]; done) | (simp; omega))) | ((with_reducible refine (?_ : (_ : Nat) < _)); (first | omega | (simp only [List.length_cons, List.length_nil]; omega) | (simp [ints]; done) | (simp; omega))) | ((with_reducible refine (?_ : (_ : Nat) = _)); (first | (with_reducible rfl) | (simp; done) | (simp only [fr_len]) | (simp only [ints_len]) | omega | (simp [*]; done))) | (refine And.intro ?_ ?_) | (intro h; first | (exact Bool.noConfusion h) | ((simp only [decide_eq_true_eq, decide_eq_false_iff_not, beq_iff_eq, bne_iff_ne, ne_eq, beq_eq_false_iff_ne, bne_eq_false_iff_eq, Bool.not_eq_true', Bool.not_eq_false', Bool.not_eq_true, Bool.not_eq_false, Int.not_le, Int.not_lt, Bool.and_eq_true, Bool.or_eq_true, Bool.or_eq_false_iff, Bool.and_eq_false_iff] at h); (try (first | (exact Bool.noConfusion h) | (exact (h trivial).elim)))) | skip) | ((with_reducible refine (?_ : chk _ _ = true)); kernel_rfl) | ((with_reducible refine (?_ : (_ : IntKind) = _)); (with_reducible rfl)) | ((with_reducible refine (?_ : eqC (C.pvw _ _ _) (C.pvw _ _ _))); exact rfl) | ((with_reducible refine (?_ : eqC (C.pv (Value.int IntKind.u64 _)) _)); exact rfl) | exact trivial)
    any_goals (exfalso; simp only [and_true] at *; omega)
    refine loop_rule (σ := Int) (fun s => [(5, I s)]) (fun s => [((2, 0), .bx [cI n.1.1, cI n.1.2, cI n.2.1.1, cI n.2.1.2, cI n.2.2.1, cI n.2.2.2]), ((3, 0), .bx [cI t.1, cI t.2])]) (fun s => 1 ≤ s ∧ s ≤ 3 ∧ ∀ j, 1 ≤ j → j < s → ¬ bhS t (spl n j)) (fun s => (3 - s).toNat) (1) ?_ (by repeat' (first | exact trivial | exact rfl | (refine And.intro ?_ ?_))) (by repeat' (first | exact trivial | exact rfl | (refine And.intro ?_ ?_))) (fun s => ⟨rfl, rfl⟩) (fun s i h => by first | exact absurd h (Nat.not_lt_zero i) | (cases i with | zero => rfl | succ i => exact absurd (Nat.lt_of_succ_lt_succ h) (Nat.not_lt_zero i))) ?_
    · exact ⟨by omega, by omega, fun j h1 h2 => by omega⟩
    · rintro i ⟨g1, g2, g3⟩
      have wi : wrap64 (i + 1) = i + 1 := wrap_small (by omega) (by omega)
      have hBi := hB i
      repeat' (first | ((with_reducible refine (?_ : (_ : Bool) = _)); (with_reducible rfl)) | ((with_reducible refine (?_ : (_ : Nat × Nat) = _)); (with_reducible rfl)) | (with_reducible refine leafRI ?_) | (with_reducible refine leafRB ?_) | (with_reducible refine leafI ?_) | (with_reducible refine leafB ?_) | ((with_reducible refine (?_ : (_ : Int) = _)); (with_reducible rfl)) | ((with_reducible refine (?_ : (_ : List (List Value)) = _)); (with_reducible rfl)) | ((with_reducible refine (?_ : (_ : Int) ≠ 0)); (first | assumption | omega | (simp; done) | (simp only [ints_len] at *; omega) | (simp; omega))) | ((with_reducible refine (?_ : (_ : Int) ≤ _)); (first | assumption | omega | (simp; done) | (simp only [ints_len] at *; omega) | (simp; omega))) | ((with_reducible refine (?_ : (_ : Int) < _)); (first | assumption | omega | (simp; done) | (simp only [ints_len] at *; omega) | (simp; omega))) | ((with_reducible refine (?_ : (_ : Nat) ≤ _)); (first | omega | (simp only [List.length_cons, List.length_nil]; omega) | (simp [ints]; done) | (simp; omega))) | ((with_reducible refine (?_ : (_ : Nat) < _)); (first | omega | (simp only [List.length_cons, List.length_nil]; omega) | (simp [ints]; done) | (simp; omega))) | ((with_reducible refine (?_ : (_ : Nat) = _)); (first | (with_reducible rfl) | (simp; done) | (simp only [fr_len]) | (simp only [ints_len]) | omega | (simp [*]; done))) | (refine And.intro ?_ ?_) | (intro h; first | (exact Bool.noConfusion h) | ((simp only [decide_eq_true_eq, decide_eq_false_iff_not, beq_iff_eq, bne_iff_ne, ne_eq, beq_eq_false_iff_ne, bne_eq_false_iff_eq, Bool.not_eq_true', Bool.not_eq_false', Bool.not_eq_true, Bool.not_eq_false, Int.not_le, Int.not_lt, Bool.and_eq_true, Bool.or_eq_true, Bool.or_eq_false_iff, Bool.and_eq_false_iff] at h); (try (first | (exact Bool.noConfusion h) | (exact (h trivial).elim)))) | skip) | ((refine (?_ : ACall _ _ _ _ _ _ _)); first | ((apply acall (hBi)); (focus (repeat' (first | exact rfl | (refine And.intro ?_ ?_) | (simp only [ints_len]; done) | (simp; done) | omega))))) | ((with_reducible refine (?_ : chk _ _ = true)); kernel_rfl) | ((with_reducible refine (?_ : (_ : IntKind) = _)); (with_reducible rfl)) | ((with_reducible refine (?_ : eqC (C.pvw _ _ _) (C.pvw _ _ _))); exact rfl) | ((with_reducible refine (?_ : eqC (C.pv (Value.int IntKind.u64 _)) _)); exact rfl) | exact trivial)
      · rw [htow]
        rcases (show i = 1 ∨ i = 2 by omega) with e | e <;> subst e
        · rw [if_pos h]
        · rw [if_neg (g3 1 (by omega) (by omega)), if_pos h]
      · refine ⟨(wrap64 (i + 1)), ?_, ?_, none, And.intro rfl (And.intro (by repeat' (first | exact trivial | exact rfl | (refine And.intro ?_ ?_))) (by repeat' (first | exact trivial | exact rfl | (refine And.intro ?_ ?_))))⟩
        · rw [wi]
          refine ⟨by omega, by omega, fun j h1 h2 => ?_⟩
          by_cases e : j = i
          · subst e; exact h
          · exact g3 j h1 (by omega)
        · rw [wi]; omega
      · rw [htow, if_neg (g3 1 (by omega) (by omega)), if_neg (g3 2 (by omega) (by omega))]

/-! the way from the root -/
def rt6 : N6 := ((0, 1), (1, 0), (1, 1))
theorem rt6_NG : NG rt6 :=
  ⟨⟨⟨by decide, by decide, by decide, by decide⟩, by decide, by decide⟩, ⟨⟨by decide, by decide, by decide, by decide⟩, by decide, by decide⟩, ⟨⟨by decide, by decide, by decide, by decide⟩, by decide, by decide⟩, by decide, by decide, by decide, by decide, by decide⟩
theorem rt6_PV (t : P2) : PV t rt6 := ⟨rt6_NG, ⟨by decide, by decide, by decide, by decide⟩, ⟨by decide, by decide, by decide, by decide⟩, ⟨by decide, by decide, by decide, by decide⟩⟩
noncomputable def ptL (t : P2) : List Int := Classical.epsilon (Way t rt6)
theorem ptL_ok {t : P2} (ht : Rg t) (hs : Sm t) : dM t rt6 ≤ 400 ∧ (ptL t).length ≤ 400 ∧ ∀ l, Way t rt6 l → l = ptL t := by
  have hM : dM t rt6 ≤ 400 := by
    obtain ⟨x1, x2, y1, y2⟩ := hs
    unfold dM det rt6
    dsimp only
    omega
  obtain ⟨l, w, hl⟩ := Way.ex ht hs _ rt6 (Nat.le_refl _) (rt6_PV t)
  have we : Way t rt6 (ptL t) := Classical.epsilon_spec (p := Way t rt6) ⟨l, w⟩
  have hu : ∀ l, Way t rt6 l → l = ptL t := fun l h => Way.det h we
  exact ⟨hM, by rw [← hu l w]; omega, hu⟩
/-- What is still to come. -/
structure WI (t : P2) (cnt : Nat) (R : List (List Value)) (m : N6) : Prop where
  v : PV t m
  le : cnt + dM t m ≤ 400
  ex : ∃ L : List Int, R = ints L ∧ cnt = L.length ∧ ∀ rest, Way t m rest → L ++ rest = ptL t
theorem WI_first {t : P2} (ht : Rg t) (hs : Sm t) : WI t 0 [] rt6 := by
  obtain ⟨h1, h2, h3⟩ := ptL_ok ht hs
  exact ⟨rt6_PV t, by omega, [], rfl, rfl, fun rest h => h3 rest h⟩
theorem WI_next {t : P2} {cnt : Nat} {R : List (List Value)} {m : N6} (ht : Rg t) (hs : Sm t) (W : WI t cnt R m) (h : tow t m ≠ 0) : WI t (cnt + 1) (R ++ [[.int .i64 (tow t m)]]) (nstp m (tow t m)) ∧ dM t (nstp m (tow t m)) < dM t m ∧ num2 (stR (spl m (tow t m))) = true := by
  obtain ⟨V, hle, L, rfl, hL, hex⟩ := W
  obtain ⟨k1, k2, k3⟩ := PV_step ht hs V h
  refine ⟨⟨k1, by omega, L ++ [tow t m], by rw [ints_app]; rfl, by simp [hL], fun rest hr => ?_⟩, k2, num2_iff.2 k3⟩
  have := hex _ (.step h hr)
  simpa using this
theorem WI_done {t : P2} {cnt : Nat} {R : List (List Value)} {m : N6} (W : WI t cnt R m) (h : tow t m = 0) : R = ints (ptL t) ∧ cnt = (ptL t).length := by
  obtain ⟨V, hle, L, rfl, hL, hex⟩ := W
  have := hex [] (.stop h)
  rw [List.append_nil] at this
  rw [← this]; exact ⟨rfl, hL⟩

/-- What the law lets through. -/
def ptG (a b : Int) : Bool := (decide (-100 ≤ a) && decide (a ≤ 100)) && (decide (-100 ≤ b) && decide (b ≤ 100)) && decide (((Int.gcd a b : Nat) : Int) = 1)
noncomputable def ptR (a b : Int) : List Int := if ptG a b then ptL (rgN a b) else []
theorem rg_of {a b : Int} (h : ptG a b = true) : Rg (rgN a b) ∧ Sm (rgN a b) ∧ (-100 ≤ a ∧ a ≤ 100) ∧ (-100 ≤ b ∧ b ≤ 100) ∧ ((Int.gcd a b : Nat) : Int) = 1 := by
  simp only [ptG, Bool.and_eq_true, decide_eq_true_eq] at h
  obtain ⟨⟨h1, h2⟩, h3⟩ := h
  obtain ⟨k1, k2⟩ := rgN_or (x := a) (y := b) (by omega) (by omega) (by omega) (by omega)
  have hS : Sm (rgN a b) := by rcases k1 with e | e <;> rw [e] <;> exact ⟨by dsimp only; omega, by dsimp only; omega, by dsimp only; omega, by dsimp only; omega⟩
  have hg : Int.gcd (rgN a b).1 (rgN a b).2 = 1 := by
    rcases k1 with e | e <;> rw [e] <;> dsimp only
    · omega
    · rw [Int.neg_gcd, Int.gcd_neg]; omega
  refine ⟨⟨hS.nm, hg, ?_⟩, hS, h1, h2, h3⟩
  rcases k2 with e | ⟨e, e'⟩
  · exact .inl e
  · refine .inr ⟨e, ?_⟩
    rw [e, Int.zero_gcd] at hg
    omega

theorem spec_tpRootP : AFun Try.prog 45 [] [] (Nd rt6) [] [] := by
  refine afun_intro fn45 rfl rfl (by repeat' (first | exact trivial | (simp; done) | refine ⟨?_, ?_⟩)) ?_
  unfold ac45
  repeat' (first | ((with_reducible refine (?_ : (_ : Bool) = _)); (with_reducible rfl)) | ((with_reducible refine (?_ : (_ : Nat × Nat) = _)); (with_reducible rfl)) | (with_reducible refine leafRI ?_) | (with_reducible refine leafRB ?_) | (with_reducible refine leafI ?_) | (with_reducible refine leafB ?_) | ((with_reducible refine (?_ : (_ : Int) = _)); (with_reducible rfl)) | ((with_reducible refine (?_ : (_ : List (List Value)) = _)); (with_reducible rfl)) | ((with_reducible refine (?_ : (_ : Int) ≠ 0)); (first | assumption | omega | (simp; done) | (simp only [ints_len] at *; omega) | (simp; omega))) | ((with_reducible refine (?_ : (_ : Int) ≤ _)); (first | assumption | omega | (simp; done) | (simp only [ints_len] at *; omega) | (simp; omega))) | ((with_reducible refine (?_ : (_ : Int) < _)); (first | assumption | omega | (simp; done) | (simp only [ints_len] at *; omega) | (simp; omega))) | ((with_reducible refine (?_ : (_ : Nat) ≤ _)); (first | omega | (simp only [List.length_cons, List.length_nil]; omega) | (simp [ints]; done) | (simp; omega))) | ((with_reducible refine (?_ : (_ : Nat) < _)); (first | omega | (simp only [List.length_cons, List.length_nil]; omega) | (simp [ints]; done) | (simp; omega))) | ((with_reducible refine (?_ : (_ : Nat) = _)); (first | (with_reducible rfl) | (simp; done) | (simp only [fr_len]) | (simp only [ints_len]) | omega | (simp [*]; done))) | (refine And.intro ?_ ?_) | (intro h; first | (exact Bool.noConfusion h) | ((simp only [decide_eq_true_eq, decide_eq_false_iff_not, beq_iff_eq, bne_iff_ne, ne_eq, beq_eq_false_iff_ne, bne_eq_false_iff_eq, Bool.not_eq_true', Bool.not_eq_false', Bool.not_eq_true, Bool.not_eq_false, Int.not_le, Int.not_lt, Bool.and_eq_true, Bool.or_eq_true, Bool.or_eq_false_iff, Bool.and_eq_false_iff] at h); (try (first | (exact Bool.noConfusion h) | (exact (h trivial).elim)))) | skip) | ((with_reducible refine (?_ : chk _ _ = true)); kernel_rfl) | ((with_reducible refine (?_ : (_ : IntKind) = _)); (with_reducible rfl)) | ((with_reducible refine (?_ : eqC (C.pvw _ _ _) (C.pvw _ _ _))); exact rfl) | ((with_reducible refine (?_ : eqC (C.pv (Value.int IntKind.u64 _)) _)); exact rfl) | exact trivial)
  all_goals rfl

theorem impl_rootNodeP : AFun Try.prog 22 [] [] (Nd rt6) [] [] := by
  refine afun_intro fn22 rfl rfl (by repeat' (first | exact trivial | (simp; done) | refine ⟨?_, ?_⟩)) ?_
  unfold ac22
  repeat' (first | ((with_reducible refine (?_ : (_ : Bool) = _)); (with_reducible rfl)) | ((with_reducible refine (?_ : (_ : Nat × Nat) = _)); (with_reducible rfl)) | (with_reducible refine leafRI ?_) | (with_reducible refine leafRB ?_) | (with_reducible refine leafI ?_) | (with_reducible refine leafB ?_) | ((with_reducible refine (?_ : (_ : Int) = _)); (with_reducible rfl)) | ((with_reducible refine (?_ : (_ : List (List Value)) = _)); (with_reducible rfl)) | ((with_reducible refine (?_ : (_ : Int) ≠ 0)); (first | assumption | omega | (simp; done) | (simp only [ints_len] at *; omega) | (simp; omega))) | ((with_reducible refine (?_ : (_ : Int) ≤ _)); (first | assumption | omega | (simp; done) | (simp only [ints_len] at *; omega) | (simp; omega))) | ((with_reducible refine (?_ : (_ : Int) < _)); (first | assumption | omega | (simp; done) | (simp only [ints_len] at *; omega) | (simp; omega))) | ((with_reducible refine (?_ : (_ : Nat) ≤ _)); (first | omega | (simp only [List.length_cons, List.length_nil]; omega) | (simp [ints]; done) | (simp; omega))) | ((with_reducible refine (?_ : (_ : Nat) < _)); (first | omega | (simp only [List.length_cons, List.length_nil]; omega) | (simp [ints]; done) | (simp; omega))) | ((with_reducible refine (?_ : (_ : Nat) = _)); (first | (with_reducible rfl) | (simp; done) | (simp only [fr_len]) | (simp only [ints_len]) | omega | (simp [*]; done))) | (refine And.intro ?_ ?_) | (intro h; first | (exact Bool.noConfusion h) | ((simp only [decide_eq_true_eq, decide_eq_false_iff_not, beq_iff_eq, bne_iff_ne, ne_eq, beq_eq_false_iff_ne, bne_eq_false_iff_eq, Bool.not_eq_true', Bool.not_eq_false', Bool.not_eq_true, Bool.not_eq_false, Int.not_le, Int.not_lt, Bool.and_eq_true, Bool.or_eq_true, Bool.or_eq_false_iff, Bool.and_eq_false_iff] at h); (try (first | (exact Bool.noConfusion h) | (exact (h trivial).elim)))) | skip) | ((with_reducible refine (?_ : chk _ _ = true)); kernel_rfl) | ((with_reducible refine (?_ : (_ : IntKind) = _)); (with_reducible rfl)) | ((with_reducible refine (?_ : eqC (C.pvw _ _ _) (C.pvw _ _ _))); exact rfl) | ((with_reducible refine (?_ : eqC (C.pv (Value.int IntKind.u64 _)) _)); exact rfl) | exact trivial)
  all_goals rfl

theorem impl_PathTo (a b : Int) (_la : -9223372036854775808 ≤ a) (_ua : a ≤ 9223372036854775807) (_lb : -9223372036854775808 ≤ b) (_ub : b ≤ 9223372036854775807) : AFun Try.prog 6 [] [Po2 a b] (PS (ptR a b).length (ptG a b)) [] [FI (ptR a b)] := by
  by_cases hG : ptG a b = true
  · obtain ⟨ht, hs, ha, hb, hg⟩ := rg_of hG
    have hR : ptR a b = ptL (rgN a b) := by rw [ptR, if_pos hG]
    have hreg := impl_region a b
    rw [hR, hG]
    generalize rgN a b = t at *
    refine afun_intro fn6 rfl rfl (by repeat' (first | exact trivial | (simp; done) | refine ⟨?_, ?_⟩)) ?_
    unfold ac6
    repeat' (first | ((with_reducible refine (?_ : (_ : Bool) = _)); (with_reducible rfl)) | ((with_reducible refine (?_ : (_ : Nat × Nat) = _)); (with_reducible rfl)) | (with_reducible refine leafRI ?_) | (with_reducible refine leafRB ?_) | (with_reducible refine leafI ?_) | (with_reducible refine leafB ?_) | ((with_reducible refine (?_ : (_ : Int) = _)); (with_reducible rfl)) | ((with_reducible refine (?_ : (_ : List (List Value)) = _)); (with_reducible rfl)) | ((with_reducible refine (?_ : (_ : Int) ≠ 0)); (first | assumption | omega | (simp; done) | (simp only [ints_len] at *; omega) | (simp; omega))) | ((with_reducible refine (?_ : (_ : Int) ≤ _)); (first | assumption | omega | (simp; done) | (simp only [ints_len] at *; omega) | (simp; omega))) | ((with_reducible refine (?_ : (_ : Int) < _)); (first | assumption | omega | (simp; done) | (simp only [ints_len] at *; omega) | (simp; omega))) | ((with_reducible refine (?_ : (_ : Nat) ≤ _)); (first | omega | (simp only [List.length_cons, List.length_nil]; omega) | (simp [ints]; done) | (simp; omega))) | ((with_reducible refine (?_ : (_ : Nat) < _)); (first | omega | (simp only [List.length_cons, List.length_nil]; omega) | (simp [ints]; done) | (simp; omega))) | ((with_reducible refine (?_ : (_ : Nat) = _)); (first | (with_reducible rfl) | (simp; done) | (simp only [fr_len]) | (simp only [ints_len]) | omega | (simp [*]; done))) | (refine And.intro ?_ ?_) | (intro h; first | (exact Bool.noConfusion h) | ((simp only [decide_eq_true_eq, decide_eq_false_iff_not, beq_iff_eq, bne_iff_ne, ne_eq, beq_eq_false_iff_ne, bne_eq_false_iff_eq, Bool.not_eq_true', Bool.not_eq_false', Bool.not_eq_true, Bool.not_eq_false, Int.not_le, Int.not_lt, Bool.and_eq_true, Bool.or_eq_true, Bool.or_eq_false_iff, Bool.and_eq_false_iff] at h); (try (exfalso; omega))) | skip) | ((refine (?_ : ACall _ _ _ _ _ _ _)); first | ((apply acall (impl_absC _ ?_ ?_)); (focus (repeat' (first | exact rfl | (refine And.intro ?_ ?_) | (simp only [ints_len]; done) | (simp; done) | omega)))) | ((apply acall (impl_gcd _ _ ?_ ?_ ?_ ?_)); (focus (repeat' (first | exact rfl | (refine And.intro ?_ ?_) | (simp only [ints_len]; done) | (simp; done) | omega)))) | ((apply acall (hreg)); (focus (repeat' (first | exact rfl | (refine And.intro ?_ ?_) | (simp only [ints_len]; done) | (simp; done) | omega)))) | ((apply acall (impl_rootNodeP)); (focus (repeat' (first | exact rfl | (refine And.intro ?_ ?_) | (simp only [ints_len]; done) | (simp; done) | omega)))) | ((apply acall (impl_towards rt6 t (rt6_PV t) ht hs)); (focus (repeat' (first | exact rfl | (refine And.intro ?_ ?_) | (simp only [ints_len]; done) | (simp; done) | omega))))) | ((with_reducible refine (?_ : chk _ _ = true)); kernel_rfl) | ((with_reducible refine (?_ : (_ : IntKind) = _)); (with_reducible rfl)) | ((with_reducible refine (?_ : eqC (C.pvw _ _ _) (C.pvw _ _ _))); exact rfl) | ((with_reducible refine (?_ : eqC (C.pv (Value.int IntKind.u64 _)) _)); exact rfl) | exact trivial)
    refine loop_rule (σ := Nat × List (List Value) × N6 × Int) (fun s => [(5, .c (.slc (29, 0) s.1)), (7, I s.2.2.2)]) (fun s => [((2, 0), .fl 3 1 []), ((4, 0), .bx [cI t.1, cI t.2]), ((6, 0), .bx [cI s.2.2.1.1.1, cI s.2.2.1.1.2, cI s.2.2.1.2.1.1, cI s.2.2.1.2.1.2, cI s.2.2.1.2.2.1, cI s.2.2.1.2.2.2]), ((29, 0), .fl 3 1 s.2.1), ((1, 0), .bx [cI a, cI b])]) (fun s => s.1 = s.2.1.length ∧ WI t s.1 s.2.1 s.2.2.1 ∧ s.2.2.2 = tow t s.2.2.1) (fun s => dM t s.2.2.1) ((0, [], rt6, tow t rt6)) ?_ (by repeat' (first | exact trivial | exact rfl | (refine And.intro ?_ ?_))) (by repeat' (first | exact trivial | exact rfl | (refine And.intro ?_ ?_))) (fun s => ⟨rfl, rfl⟩) (fun s i h => by first | exact absurd h (Nat.not_lt_zero i) | (cases i with | zero => rfl | succ i => exact absurd (Nat.lt_of_succ_lt_succ h) (Nat.not_lt_zero i))) ?_
    · exact ⟨rfl, WI_first ht hs, rfl⟩
    · rintro ⟨cnt, R, m, i⟩ ⟨g0, W, gi⟩
      dsimp only at g0 W gi ⊢
      have hle := W.le
      have hst := impl_nstep m.1.1 m.1.2 m.2.1.1 m.2.1.2 m.2.2.1 m.2.2.2 i (ndG_iff.2 W.v.g)
      change AFun _ _ _ _ (PNd (stX m i) (num2 (stR (spl m i)))) _ _ at hst
      by_cases h0 : tow t m = 0
      · obtain ⟨e1, e2⟩ := WI_done W h0
        rw [h0] at gi
        repeat' (first | ((with_reducible refine (?_ : (_ : Bool) = _)); (with_reducible rfl)) | ((with_reducible refine (?_ : (_ : Nat × Nat) = _)); (with_reducible rfl)) | (with_reducible refine leafRI ?_) | (with_reducible refine leafRB ?_) | (with_reducible refine leafI ?_) | (with_reducible refine leafB ?_) | ((with_reducible refine (?_ : (_ : Int) = _)); (with_reducible rfl)) | ((with_reducible refine (?_ : (_ : List (List Value)) = _)); (with_reducible rfl)) | ((with_reducible refine (?_ : (_ : Int) ≠ 0)); (first | assumption | omega | (simp; done) | (simp only [ints_len] at *; omega) | (simp; omega))) | ((with_reducible refine (?_ : (_ : Int) ≤ _)); (first | assumption | omega | (simp; done) | (simp only [ints_len] at *; omega) | (simp; omega))) | ((with_reducible refine (?_ : (_ : Int) < _)); (first | assumption | omega | (simp; done) | (simp only [ints_len] at *; omega) | (simp; omega))) | ((with_reducible refine (?_ : (_ : Nat) ≤ _)); (first | omega | (simp only [List.length_cons, List.length_nil]; omega) | (simp [ints]; done) | (simp; omega))) | ((with_reducible refine (?_ : (_ : Nat) < _)); (first | omega | (simp only [List.length_cons, List.length_nil]; omega) | (simp [ints]; done) | (simp; omega))) | ((with_reducible refine (?_ : (_ : Nat) = _)); (first | (with_reducible rfl) | (simp; done) | (simp only [fr_len]) | (simp only [ints_len]) | omega | (simp [*]; done))) | (refine And.intro ?_ ?_) | (intro h; first | (exact Bool.noConfusion h) | ((simp only [decide_eq_true_eq, decide_eq_false_iff_not, beq_iff_eq, bne_iff_ne, ne_eq, beq_eq_false_iff_ne, bne_eq_false_iff_eq, Bool.not_eq_true', Bool.not_eq_false', Bool.not_eq_true, Bool.not_eq_false, Int.not_le, Int.not_lt, Bool.and_eq_true, Bool.or_eq_true, Bool.or_eq_false_iff, Bool.and_eq_false_iff] at h); (try (exfalso; omega))) | skip) | ((with_reducible refine (?_ : chk _ _ = true)); kernel_rfl) | ((with_reducible refine (?_ : (_ : IntKind) = _)); (with_reducible rfl)) | ((with_reducible refine (?_ : eqC (C.pvw _ _ _) (C.pvw _ _ _))); exact rfl) | ((with_reducible refine (?_ : eqC (C.pv (Value.int IntKind.u64 _)) _)); exact rfl) | exact trivial)
        exact e1
      · obtain ⟨W2, k1, k2⟩ := WI_next ht hs W h0
        rw [← gi] at k1 k2 W2 h0
        have hx : stX m i = nstp m i := by rw [stX, if_pos k2]
        rw [hx, k2] at hst
        have htw := impl_towards (nstp m i) t W2.v ht hs
        repeat' (first | ((with_reducible refine (?_ : (_ : Bool) = _)); (with_reducible rfl)) | ((with_reducible refine (?_ : (_ : Nat × Nat) = _)); (with_reducible rfl)) | (with_reducible refine leafRI ?_) | (with_reducible refine leafRB ?_) | (with_reducible refine leafI ?_) | (with_reducible refine leafB ?_) | ((with_reducible refine (?_ : (_ : Int) = _)); (with_reducible rfl)) | ((with_reducible refine (?_ : (_ : List (List Value)) = _)); (with_reducible rfl)) | ((with_reducible refine (?_ : (_ : Int) ≠ 0)); (first | assumption | omega | (simp; done) | (simp only [ints_len] at *; omega) | (simp; omega))) | ((with_reducible refine (?_ : (_ : Int) ≤ _)); (first | assumption | omega | (simp; done) | (simp only [ints_len] at *; omega) | (simp; omega))) | ((with_reducible refine (?_ : (_ : Int) < _)); (first | assumption | omega | (simp; done) | (simp only [ints_len] at *; omega) | (simp; omega))) | ((with_reducible refine (?_ : (_ : Nat) ≤ _)); (first | omega | (simp only [List.length_cons, List.length_nil]; omega) | (simp [ints]; done) | (simp; omega))) | ((with_reducible refine (?_ : (_ : Nat) < _)); (first | omega | (simp only [List.length_cons, List.length_nil]; omega) | (simp [ints]; done) | (simp; omega))) | ((with_reducible refine (?_ : (_ : Nat) = _)); (first | (with_reducible rfl) | (simp; done) | (simp only [fr_len]) | (simp only [ints_len]) | omega | (simp [*]; done))) | (refine And.intro ?_ ?_) | (intro h; first | (exact Bool.noConfusion h) | ((simp only [decide_eq_true_eq, decide_eq_false_iff_not, beq_iff_eq, bne_iff_ne, ne_eq, beq_eq_false_iff_ne, bne_eq_false_iff_eq, Bool.not_eq_true', Bool.not_eq_false', Bool.not_eq_true, Bool.not_eq_false, Int.not_le, Int.not_lt, Bool.and_eq_true, Bool.or_eq_true, Bool.or_eq_false_iff, Bool.and_eq_false_iff] at h); (try (exfalso; omega))) | skip) | ((refine (?_ : ACall _ _ _ _ _ _ _)); first | ((apply acall (hst)); (focus (repeat' (first | exact rfl | (refine And.intro ?_ ?_) | (simp only [ints_len]; done) | (simp; done) | omega)))) | ((apply acall (htw)); (focus (repeat' (first | exact rfl | (refine And.intro ?_ ?_) | (simp only [ints_len]; done) | (simp; done) | omega))))) | ((with_reducible refine (?_ : chk _ _ = true)); kernel_rfl) | ((with_reducible refine (?_ : (_ : IntKind) = _)); (with_reducible rfl)) | ((with_reducible refine (?_ : eqC (C.pvw _ _ _) (C.pvw _ _ _))); exact rfl) | ((with_reducible refine (?_ : eqC (C.pv (Value.int IntKind.u64 _)) _)); exact rfl) | exact trivial)
        refine ⟨(_, _, nstp m i, _), ?_, ?_, none, And.intro rfl (And.intro (by repeat' (first | exact trivial | exact rfl | (refine And.intro ?_ ?_))) (by repeat' (first | exact trivial | exact rfl | (refine And.intro ?_ ?_))))⟩
        · dsimp only
          refine ⟨by simp [g0], ?_, rfl⟩
          rw [g0] at W2
          rw [gi] at *
          exact W2
        · exact k1
  · have hR : ptR a b = [] := by rw [ptR, if_neg hG]
    have hG' : ptG a b = false := by simpa using hG
    rw [hR, hG']
    refine afun_intro fn6 rfl rfl (by repeat' (first | exact trivial | (simp; done) | refine ⟨?_, ?_⟩)) ?_
    unfold ac6
    repeat' (first | ((with_reducible refine (?_ : (_ : Bool) = _)); (with_reducible rfl)) | ((with_reducible refine (?_ : (_ : Nat × Nat) = _)); (with_reducible rfl)) | (with_reducible refine leafRI ?_) | (with_reducible refine leafRB ?_) | (with_reducible refine leafI ?_) | (with_reducible refine leafB ?_) | ((with_reducible refine (?_ : (_ : Int) = _)); (with_reducible rfl)) | ((with_reducible refine (?_ : (_ : List (List Value)) = _)); (with_reducible rfl)) | ((with_reducible refine (?_ : (_ : Int) ≠ 0)); (first | assumption | omega | (simp; done) | (simp only [ints_len] at *; omega) | (simp; omega))) | ((with_reducible refine (?_ : (_ : Int) ≤ _)); (first | assumption | omega | (simp; done) | (simp only [ints_len] at *; omega) | (simp; omega))) | ((with_reducible refine (?_ : (_ : Int) < _)); (first | assumption | omega | (simp; done) | (simp only [ints_len] at *; omega) | (simp; omega))) | ((with_reducible refine (?_ : (_ : Nat) ≤ _)); (first | omega | (simp only [List.length_cons, List.length_nil]; omega) | (simp [ints]; done) | (simp; omega))) | ((with_reducible refine (?_ : (_ : Nat) < _)); (first | omega | (simp only [List.length_cons, List.length_nil]; omega) | (simp [ints]; done) | (simp; omega))) | ((with_reducible refine (?_ : (_ : Nat) = _)); (first | (with_reducible rfl) | (simp; done) | (simp only [fr_len]) | (simp only [ints_len]) | omega | (simp [*]; done))) | (refine And.intro ?_ ?_) | (intro h; first | (exact Bool.noConfusion h) | ((simp only [decide_eq_true_eq, decide_eq_false_iff_not, beq_iff_eq, bne_iff_ne, ne_eq, beq_eq_false_iff_ne, bne_eq_false_iff_eq, Bool.not_eq_true', Bool.not_eq_false', Bool.not_eq_true, Bool.not_eq_false, Int.not_le, Int.not_lt, Bool.and_eq_true, Bool.or_eq_true, Bool.or_eq_false_iff, Bool.and_eq_false_iff] at h); (try (first | (exact Bool.noConfusion h) | (exact (h trivial).elim)))) | skip) | ((refine (?_ : ACall _ _ _ _ _ _ _)); first | ((apply acall (impl_absC _ ?_ ?_)); (focus (repeat' (first | exact rfl | (refine And.intro ?_ ?_) | (simp only [ints_len]; done) | (simp; done) | omega)))) | ((apply acall (impl_gcd _ _ ?_ ?_ ?_ ?_)); (focus (repeat' (first | exact rfl | (refine And.intro ?_ ?_) | (simp only [ints_len]; done) | (simp; done) | omega))))) | ((with_reducible refine (?_ : chk _ _ = true)); kernel_rfl) | ((with_reducible refine (?_ : (_ : IntKind) = _)); (with_reducible rfl)) | ((with_reducible refine (?_ : eqC (C.pvw _ _ _) (C.pvw _ _ _))); exact rfl) | ((with_reducible refine (?_ : eqC (C.pv (Value.int IntKind.u64 _)) _)); exact rfl) | exact trivial)
    all_goals first | rfl | omega | (exfalso; apply hG; unfold ptG; simp only [Bool.and_eq_true, decide_eq_true_eq]; omega)

theorem tow_first {t : P2} {m : N6} {i : Int} (hm : ¬ (t = m.1 ∨ t = m.2.1 ∨ t = m.2.2)) (g1 : 1 ≤ i) (g2 : i ≤ 3) (g3 : ∀ j, 1 ≤ j → j < i → ¬ bhS t (spl m j)) (hb : bhS t (spl m i)) : i = tow t m := by
  unfold tow
  rw [if_neg hm]
  rcases (show i = 1 ∨ i = 2 ∨ i = 3 by omega) with e | e | e <;> subst e
  · rw [if_pos hb]
  · rw [if_neg (g3 1 (by omega) (by omega)), if_pos hb]
  · rw [if_neg (g3 1 (by omega) (by omega)), if_neg (g3 2 (by omega) (by omega))]

theorem spc_eq {t : P2} {s : N6} (S : SG s) (ht : Nm2 t) : (wrap64 ((tn t s.2.2).sign * (tn t s.2.1).sign) = wrap64 (-(wrap64 (tn s.1 s.2.2 * tn s.1 s.2.1)).sign)) ↔ bhS t s := by
  have sb : ∀ x : Int, x.sign = 1 ∨ x.sign = -1 ∨ x.sign = 0 := fun x => by
    by_cases h : x = 0
    · subst h; simp
    · rcases sgn_or h with e | e <;> simp [e]
  rw [tn_det ht S.rq.nm, tn_det ht S.rp.nm, tn_det S.ro.nm S.rq.nm, tn_det S.ro.nm S.rp.nm]
  unfold bhS
  have a1 := det_anti s.2.1 s.1
  have a2 := det_anti s.2.2 s.1
  have k1 := S.dpo
  have k2 := S.dqo
  rw [a1, a2]
  have e2 : ∀ x y : Int, (x = 1 ∨ x = -1) → (y = 1 ∨ y = -1) → wrap64 (-y * -x) = y * x := fun x y hx hy => by
    rcases hx with rfl | rfl <;> rcases hy with rfl | rfl <;> exact wrap_small (by decide) (by decide)
  rw [e2 _ _ k1 k2]
  have e3 : wrap64 (-(det s.2.2 s.1 * det s.2.1 s.1).sign) = -(det s.2.2 s.1 * det s.2.1 s.1).sign := by
    rcases k1 with e | e <;> rcases k2 with f | f <;> rw [e, f] <;> exact wrap_small (by decide) (by decide)
  rw [e3]
  have e4 : wrap64 ((det t s.2.2).sign * (det t s.2.1).sign) = (det t s.2.2).sign * (det t s.2.1).sign := by
    rcases sb (det t s.2.2) with e | e | e <;> rcases sb (det t s.2.1) with f | f | f <;> rw [e, f] <;> exact wrap_small (by decide) (by decide)
  rw [e4, Int.mul_comm (det t s.2.2).sign, Int.neg_mul_neg, Int.mul_comm (det s.2.2 s.1)]

end Go.Proofs.Ytemlkfcbcphenaa
