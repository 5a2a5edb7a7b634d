/- The law on isotropy: the walk, case by case. -/
import Derived.Test.YtfcndlagnhaafaaSAV
import Derived.Test.YtfcndlagnhaafaaSBL
namespace Go.Proofs.Ytfcndlagnhaafaa
open Go.RowKit
set_option linter.unusedSimpArgs false
set_option linter.unusedVariables false
set_option maxRecDepth 100000
set_option maxHeartbeats 20000000

theorem is_Bff (v v' : Value) (l l' : List Int) (L Q : List Int) (p a b r m hs x y z : Int)
    (hc : AFun Try.prog 4 [] [By v l, By v' l'] (Bo false) [] [])
    (d1 : AFun Try.prog 5 [] [.c (.pvw v 1 (byts l))] (.tup [(false, [.slc (0, 0) L.length]), (false, [cI p])]) [] [FI L])
    (d2 : AFun Try.prog 14 [] [.c (.pvw v' 1 (byts l'))] (.tup [(false, [cI a]), (false, [cI b]), (false, [cI r]), (false, [cI m])]) [] [])
    (k1 : AFun Try.prog 6 [] [Vw L, I p] (PBB false true) [] []) (k2 : AFun Try.prog 7 [] [Vw L, I p] (PBB false true) [] [])
    (k3 : AFun Try.prog 8 [] [Vw L, I p] (PI hs true) [] []) (k4 : AFun Try.prog 9 [] [Vw L, I p] (PI hs true) [] [])
    (k5 : AFun Try.prog 6 [] [Vw L.reverse, I p] (PBB false true) [] []) (k6 : AFun Try.prog 8 [] [Vw L.reverse, I p] (PI hs true) [] [])
    (k7 : AFun Try.prog 10 [] [Vw L] (PS Q.length false) [] [FI Q]) (k8 : AFun Try.prog 11 [] [Vw L] (PS Q.length false) [] [FI Q])
    (k10 : AFun Try.prog 15 [] [I a, I b, I r, I m] (P4 x y z false) [] []) (k11 : AFun Try.prog 16 [] [I a, I b, I r, I m] (P4 x y z false) [] [])
    (hL : L.length ≤ 9) (hQ : Q.length ≤ 10000000) : AFun Try.prog 3 [] [By v l, By v' l'] (Bo true) [] [] := by
  have il := ints_len L
  have iq := ints_len Q
  have se := laws_sameInts Q Q (by omega) (by omega)
  rw [decide_eq_true rfl] at se
  refine afun_intro fn3 rfl rfl (by repeat' (first | exact trivial | (simp; done) | refine ⟨?_, ?_⟩)) ?_
  unfold ac3
  repeat' (first | ((with_reducible refine (?_ : (_ : Bool) = _)); (with_reducible rfl)) | (with_reducible refine leafRB ?_) | (with_reducible refine leafI ?_) | (with_reducible refine leafB ?_) | ((with_reducible refine (?_ : (_ : Int) = _)); (with_reducible rfl)) | ((with_reducible refine (?_ : (_ : List (List Value)) = _)); (with_reducible rfl)) | ((with_reducible refine (?_ : (_ : Int) ≠ 0)); (first | assumption | omega)) | ((with_reducible refine (?_ : (_ : Int) ≤ _)); omega) | ((with_reducible refine (?_ : (_ : Int) < _)); omega) | ((with_reducible refine (?_ : (_ : Nat) ≤ _)); omega) | ((with_reducible refine (?_ : (_ : Nat) < _)); omega) | ((with_reducible refine (?_ : (_ : Nat) = _)); (first | (with_reducible rfl) | omega | (simp; done))) | (refine And.intro ?_ ?_) | (intro h; first | (exact Bool.noConfusion h) | ((simp only [decide_eq_true_eq, decide_eq_false_iff_not, beq_iff_eq, bne_iff_ne, ne_eq, beq_eq_false_iff_ne, bne_eq_false_iff_eq, Bool.not_eq_true', Bool.not_eq_false', Bool.not_eq_true, Bool.not_eq_false, Int.not_le, Int.not_lt, Bool.and_eq_true, Bool.or_eq_true, Bool.or_eq_false_iff, Bool.and_eq_false_iff] at h); (try (exact absurd trivial h))) | skip) | ((refine (?_ : ACall _ _ _ _ _ _ _)); first | ((apply acall (hc)); (focus ((repeat' (first | exact rfl | (refine And.intro ?_ ?_) | (simp only [ints_len]; done))); done))) | ((apply acall (d1)); (focus ((repeat' (first | exact rfl | (refine And.intro ?_ ?_) | (simp only [ints_len]; done))); done))) | ((apply acall (k1)); (focus ((repeat' (first | exact rfl | (refine And.intro ?_ ?_) | (simp only [ints_len]; done))); done))) | ((apply acall (k2)); (focus ((repeat' (first | exact rfl | (refine And.intro ?_ ?_) | (simp only [ints_len]; done))); done))) | ((apply acall (k3)); (focus ((repeat' (first | exact rfl | (refine And.intro ?_ ?_) | (simp only [ints_len]; done))); done))) | ((apply acall (k4)); (focus ((repeat' (first | exact rfl | (refine And.intro ?_ ?_) | (simp only [ints_len]; done))); done)))) | ((with_reducible refine (?_ : chk _ _ = true)); kernel_rfl) | ((with_reducible refine (?_ : eqC (C.pvw _ _ _) (C.pvw _ _ _))); exact rfl) | exact trivial)
  refine loop_rule (σ := Nat × List (List Value) × Int) (fun s => [(15, .c (.slc (15, 0) s.1)), (16, I s.2.2)]) (fun s => [((44, 0), FI L), ((15, 0), .fl 3 1 s.2.1)]) (fun s => s.1 = s.2.1.length ∧ -1 ≤ s.2.2 ∧ s.2.2 ≤ (L.length : Int) - 1 ∧ s.2.1 = ints ((L.drop (s.2.2 + 1).toNat).reverse)) (fun s => (s.2.2 + 1).toNat) ((0, [], wrap64 (L.length - 1))) ?_ (by repeat' (first | exact trivial | exact rfl | (refine And.intro ?_ ?_))) (by repeat' (first | exact trivial | exact rfl | (refine And.intro ?_ ?_))) (fun s => ⟨rfl, rfl⟩) (fun s i h => by first | exact absurd h (Nat.not_lt_zero i) | (cases i with | zero => rfl | succ i => exact absurd (Nat.lt_of_succ_lt_succ h) (Nat.not_lt_zero i))) ?_
  · have w1 : wrap64 ((L.length : Int) - 1) = L.length - 1 := wrap_small (by omega) (by omega)
    dsimp only
    rw [w1, show ((L.length : Int) - 1 + 1).toNat = L.length by omega, List.drop_length]
    exact ⟨rfl, by omega, by omega, rfl⟩
  rintro ⟨k, R, i⟩ ⟨g0, g1, g2, g3⟩
  dsimp only at g0 g1 g2 g3 ⊢
  have w1 : wrap64 (i - 1) = i - 1 := wrap_small (by omega) (by omega)
  by_cases hi : 0 ≤ i
  · have hd : L.drop i.toNat = L[i.toNat]'(by omega) :: L.drop (i + 1).toNat := by
      rw [show (i + 1).toNat = i.toNat + 1 by omega]
      exact List.drop_eq_getElem_cons (by omega)
    have hR : R ++ [[.int .i64 (L[i.toNat]'(by omega))]] = ints ((L.drop i.toNat).reverse) := by
      rw [hd, List.reverse_cons, ints_app, g3]
      rfl
    have hl : R.length ≤ 9 := by rw [g3, ints_len, List.length_reverse, List.length_drop]; omega
    clear hc d1 d2 k1 k2 k3 k4 k5 k6 k7 k8 k10 k11
    repeat' (first | ((with_reducible refine (?_ : (_ : Bool) = _)); (with_reducible rfl)) | (with_reducible refine leafRB ?_) | (with_reducible refine leafI ?_) | (with_reducible refine leafB ?_) | ((with_reducible refine (?_ : (_ : Int) = _)); (with_reducible rfl)) | ((with_reducible refine (?_ : (_ : List (List Value)) = _)); (with_reducible rfl)) | ((with_reducible refine (?_ : (_ : Int) ≠ 0)); (first | assumption | omega)) | ((with_reducible refine (?_ : (_ : Int) ≤ _)); omega) | ((with_reducible refine (?_ : (_ : Int) < _)); omega) | ((with_reducible refine (?_ : (_ : Nat) ≤ _)); (first | omega | (simp only [List.length_cons, List.length_nil]; omega))) | ((with_reducible refine (?_ : (_ : Nat) < _)); (first | omega | (simp only [List.length_cons, List.length_nil]; omega))) | ((with_reducible refine (?_ : (_ : Nat) = _)); (first | (with_reducible rfl) | omega | (simp; done))) | ((with_reducible refine view_at ?_ ?_); (focus (constructor <;> (first | omega | (simp only [ints_len] at *; omega)))); intro n hn) | (refine And.intro ?_ ?_) | (intro h; first | (exact Bool.noConfusion h) | ((simp only [decide_eq_true_eq, decide_eq_false_iff_not, beq_iff_eq, bne_iff_ne, ne_eq, beq_eq_false_iff_ne, bne_eq_false_iff_eq, Bool.not_eq_true', Bool.not_eq_false', Bool.not_eq_true, Bool.not_eq_false, Int.not_le, Int.not_lt, Bool.and_eq_true, Bool.or_eq_true, Bool.or_eq_false_iff, Bool.and_eq_false_iff] at h); (try (exfalso; omega))) | skip) | ((with_reducible refine (?_ : chk _ _ = true)); kernel_rfl) | ((with_reducible refine (?_ : eqC (C.pvw _ _ _) (C.pvw _ _ _))); exact rfl) | exact trivial)
    have hn2 : n = L[i.toNat]'(by omega) := by rw [List.getElem?_eq_getElem (by omega)] at hn; exact (Option.some.inj hn).symm
    subst hn2
    refine ⟨(_, _, _), ?_, ?_, none, And.intro rfl (And.intro (by repeat' (first | exact trivial | exact rfl | (refine And.intro ?_ ?_))) (by repeat' (first | exact trivial | exact rfl | (refine And.intro ?_ ?_))))⟩
    · dsimp only
      rw [w1, show (i - 1 + 1).toNat = i.toNat by omega]
      exact ⟨by simp, by omega, by omega, hR⟩
    · dsimp only
      rw [w1]; omega
  have hi2 : i = -1 := by omega
  subst hi2
  rw [show (-1 + 1 : Int).toNat = 0 by decide, List.drop_zero] at g3
  subst g3
  rw [ints_len] at g0
  subst g0
  clear w1 g1 g2 hi
  repeat' (first | ((with_reducible refine (?_ : (_ : Bool) = _)); (with_reducible rfl)) | (with_reducible refine leafRB ?_) | (with_reducible refine leafI ?_) | (with_reducible refine leafB ?_) | ((with_reducible refine (?_ : (_ : Int) = _)); (with_reducible rfl)) | ((with_reducible refine (?_ : (_ : List (List Value)) = _)); (with_reducible rfl)) | ((with_reducible refine (?_ : (_ : Int) ≠ 0)); (first | assumption | omega)) | ((with_reducible refine (?_ : (_ : Int) ≤ _)); omega) | ((with_reducible refine (?_ : (_ : Int) < _)); omega) | ((with_reducible refine (?_ : (_ : Nat) ≤ _)); omega) | ((with_reducible refine (?_ : (_ : Nat) < _)); omega) | ((with_reducible refine (?_ : (_ : Nat) = _)); (first | (with_reducible rfl) | omega | (simp; done))) | (refine And.intro ?_ ?_) | (intro h; first | (exact Bool.noConfusion h) | ((simp only [decide_eq_true_eq, decide_eq_false_iff_not, beq_iff_eq, bne_iff_ne, ne_eq, beq_eq_false_iff_ne, bne_eq_false_iff_eq, Bool.not_eq_true', Bool.not_eq_false', Bool.not_eq_true, Bool.not_eq_false, Int.not_le, Int.not_lt, Bool.and_eq_true, Bool.or_eq_true, Bool.or_eq_false_iff, Bool.and_eq_false_iff] at h); (try (first | (exact absurd trivial h) | (exfalso; omega)))) | skip) | ((refine (?_ : ACall _ _ _ _ _ _ _)); first | ((apply acall (k5)); (focus ((repeat' (first | exact rfl | (refine And.intro ?_ ?_) | (simp only [ints_len]; done))); done))) | ((apply acall (k6)); (focus ((repeat' (first | exact rfl | (refine And.intro ?_ ?_) | (simp only [ints_len]; done))); done))) | ((apply acall (k7)); (focus ((repeat' (first | exact rfl | (refine And.intro ?_ ?_) | (simp only [ints_len]; done))); done))) | ((apply acall (k8)); (focus ((repeat' (first | exact rfl | (refine And.intro ?_ ?_) | (simp only [ints_len]; done))); done))) | ((apply acall (se)); (focus ((repeat' (first | exact rfl | (refine And.intro ?_ ?_) | (simp only [ints_len]; done))); done))) | ((apply acall (d2)); (focus ((repeat' (first | exact rfl | (refine And.intro ?_ ?_) | (simp only [ints_len]; done))); done))) | ((apply acall (k10)); (focus ((repeat' (first | exact rfl | (refine And.intro ?_ ?_) | (simp only [ints_len]; done))); done))) | ((apply acall (k11)); (focus ((repeat' (first | exact rfl | (refine And.intro ?_ ?_) | (simp only [ints_len]; done))); done)))) | ((with_reducible refine (?_ : chk _ _ = true)); kernel_rfl) | ((with_reducible refine (?_ : eqC (C.pvw _ _ _) (C.pvw _ _ _))); exact rfl) | exact trivial)

theorem is_Bft (v v' : Value) (l l' : List Int) (L Q : List Int) (p a b r m hs x y z : Int)
    (hc : AFun Try.prog 4 [] [By v l, By v' l'] (Bo false) [] [])
    (d1 : AFun Try.prog 5 [] [.c (.pvw v 1 (byts l))] (.tup [(false, [.slc (0, 0) L.length]), (false, [cI p])]) [] [FI L])
    (d2 : AFun Try.prog 14 [] [.c (.pvw v' 1 (byts l'))] (.tup [(false, [cI a]), (false, [cI b]), (false, [cI r]), (false, [cI m])]) [] [])
    (k1 : AFun Try.prog 6 [] [Vw L, I p] (PBB false true) [] []) (k2 : AFun Try.prog 7 [] [Vw L, I p] (PBB false true) [] [])
    (k3 : AFun Try.prog 8 [] [Vw L, I p] (PI hs true) [] []) (k4 : AFun Try.prog 9 [] [Vw L, I p] (PI hs true) [] [])
    (k5 : AFun Try.prog 6 [] [Vw L.reverse, I p] (PBB false true) [] []) (k6 : AFun Try.prog 8 [] [Vw L.reverse, I p] (PI hs true) [] [])
    (k7 : AFun Try.prog 10 [] [Vw L] (PS Q.length false) [] [FI Q]) (k8 : AFun Try.prog 11 [] [Vw L] (PS Q.length false) [] [FI Q])
    (k10 : AFun Try.prog 15 [] [I a, I b, I r, I m] (P4 x y z true) [] []) (k11 : AFun Try.prog 16 [] [I a, I b, I r, I m] (P4 x y z true) [] [])
    (hL : L.length ≤ 9) (hQ : Q.length ≤ 10000000)
    (s1 : (wrap64 (wrap64 (wrap64 (wrap64 (a * x) * x) + wrap64 (wrap64 (b * y) * y)) - wrap64 (z * z))).tmod (r ^ m.toNat) = 0) (s2 : 1 ≤ m) (s3 : 2 ≤ r) (s4 : r ^ m.toNat ≤ 64) (s5 : m ≤ 1000000) : AFun Try.prog 3 [] [By v l, By v' l'] (Bo true) [] [] := by
  have il := ints_len L
  have iq := ints_len Q
  have se := laws_sameInts Q Q (by omega) (by omega)
  rw [decide_eq_true rfl] at se
  refine afun_intro fn3 rfl rfl (by repeat' (first | exact trivial | (simp; done) | refine ⟨?_, ?_⟩)) ?_
  unfold ac3
  repeat' (first | ((with_reducible refine (?_ : (_ : Bool) = _)); (with_reducible rfl)) | (with_reducible refine leafRB ?_) | (with_reducible refine leafI ?_) | (with_reducible refine leafB ?_) | ((with_reducible refine (?_ : (_ : Int) = _)); (with_reducible rfl)) | ((with_reducible refine (?_ : (_ : List (List Value)) = _)); (with_reducible rfl)) | ((with_reducible refine (?_ : (_ : Int) ≠ 0)); (first | assumption | omega)) | ((with_reducible refine (?_ : (_ : Int) ≤ _)); omega) | ((with_reducible refine (?_ : (_ : Int) < _)); omega) | ((with_reducible refine (?_ : (_ : Nat) ≤ _)); omega) | ((with_reducible refine (?_ : (_ : Nat) < _)); omega) | ((with_reducible refine (?_ : (_ : Nat) = _)); (first | (with_reducible rfl) | omega | (simp; done))) | (refine And.intro ?_ ?_) | (intro h; first | (exact Bool.noConfusion h) | ((simp only [decide_eq_true_eq, decide_eq_false_iff_not, beq_iff_eq, bne_iff_ne, ne_eq, beq_eq_false_iff_ne, bne_eq_false_iff_eq, Bool.not_eq_true', Bool.not_eq_false', Bool.not_eq_true, Bool.not_eq_false, Int.not_le, Int.not_lt, Bool.and_eq_true, Bool.or_eq_true, Bool.or_eq_false_iff, Bool.and_eq_false_iff] at h); (try (exact absurd trivial h))) | skip) | ((refine (?_ : ACall _ _ _ _ _ _ _)); first | ((apply acall (hc)); (focus ((repeat' (first | exact rfl | (refine And.intro ?_ ?_) | (simp only [ints_len]; done))); done))) | ((apply acall (d1)); (focus ((repeat' (first | exact rfl | (refine And.intro ?_ ?_) | (simp only [ints_len]; done))); done))) | ((apply acall (k1)); (focus ((repeat' (first | exact rfl | (refine And.intro ?_ ?_) | (simp only [ints_len]; done))); done))) | ((apply acall (k2)); (focus ((repeat' (first | exact rfl | (refine And.intro ?_ ?_) | (simp only [ints_len]; done))); done))) | ((apply acall (k3)); (focus ((repeat' (first | exact rfl | (refine And.intro ?_ ?_) | (simp only [ints_len]; done))); done))) | ((apply acall (k4)); (focus ((repeat' (first | exact rfl | (refine And.intro ?_ ?_) | (simp only [ints_len]; done))); done)))) | ((with_reducible refine (?_ : chk _ _ = true)); kernel_rfl) | ((with_reducible refine (?_ : eqC (C.pvw _ _ _) (C.pvw _ _ _))); exact rfl) | exact trivial)
  refine loop_rule (σ := Nat × List (List Value) × Int) (fun s => [(15, .c (.slc (15, 0) s.1)), (16, I s.2.2)]) (fun s => [((44, 0), FI L), ((15, 0), .fl 3 1 s.2.1)]) (fun s => s.1 = s.2.1.length ∧ -1 ≤ s.2.2 ∧ s.2.2 ≤ (L.length : Int) - 1 ∧ s.2.1 = ints ((L.drop (s.2.2 + 1).toNat).reverse)) (fun s => (s.2.2 + 1).toNat) ((0, [], wrap64 (L.length - 1))) ?_ (by repeat' (first | exact trivial | exact rfl | (refine And.intro ?_ ?_))) (by repeat' (first | exact trivial | exact rfl | (refine And.intro ?_ ?_))) (fun s => ⟨rfl, rfl⟩) (fun s i h => by first | exact absurd h (Nat.not_lt_zero i) | (cases i with | zero => rfl | succ i => exact absurd (Nat.lt_of_succ_lt_succ h) (Nat.not_lt_zero i))) ?_
  · have w1 : wrap64 ((L.length : Int) - 1) = L.length - 1 := wrap_small (by omega) (by omega)
    dsimp only
    rw [w1, show ((L.length : Int) - 1 + 1).toNat = L.length by omega, List.drop_length]
    exact ⟨rfl, by omega, by omega, rfl⟩
  rintro ⟨k, R, i⟩ ⟨g0, g1, g2, g3⟩
  dsimp only at g0 g1 g2 g3 ⊢
  have w1 : wrap64 (i - 1) = i - 1 := wrap_small (by omega) (by omega)
  by_cases hi : 0 ≤ i
  · have hd : L.drop i.toNat = L[i.toNat]'(by omega) :: L.drop (i + 1).toNat := by
      rw [show (i + 1).toNat = i.toNat + 1 by omega]
      exact List.drop_eq_getElem_cons (by omega)
    have hR : R ++ [[.int .i64 (L[i.toNat]'(by omega))]] = ints ((L.drop i.toNat).reverse) := by
      rw [hd, List.reverse_cons, ints_app, g3]
      rfl
    have hl : R.length ≤ 9 := by rw [g3, ints_len, List.length_reverse, List.length_drop]; omega
    clear hc d1 d2 k1 k2 k3 k4 k5 k6 k7 k8 k10 k11
    repeat' (first | ((with_reducible refine (?_ : (_ : Bool) = _)); (with_reducible rfl)) | (with_reducible refine leafRB ?_) | (with_reducible refine leafI ?_) | (with_reducible refine leafB ?_) | ((with_reducible refine (?_ : (_ : Int) = _)); (with_reducible rfl)) | ((with_reducible refine (?_ : (_ : List (List Value)) = _)); (with_reducible rfl)) | ((with_reducible refine (?_ : (_ : Int) ≠ 0)); (first | assumption | omega)) | ((with_reducible refine (?_ : (_ : Int) ≤ _)); omega) | ((with_reducible refine (?_ : (_ : Int) < _)); omega) | ((with_reducible refine (?_ : (_ : Nat) ≤ _)); (first | omega | (simp only [List.length_cons, List.length_nil]; omega))) | ((with_reducible refine (?_ : (_ : Nat) < _)); (first | omega | (simp only [List.length_cons, List.length_nil]; omega))) | ((with_reducible refine (?_ : (_ : Nat) = _)); (first | (with_reducible rfl) | omega | (simp; done))) | ((with_reducible refine view_at ?_ ?_); (focus (constructor <;> (first | omega | (simp only [ints_len] at *; omega)))); intro n hn) | (refine And.intro ?_ ?_) | (intro h; first | (exact Bool.noConfusion h) | ((simp only [decide_eq_true_eq, decide_eq_false_iff_not, beq_iff_eq, bne_iff_ne, ne_eq, beq_eq_false_iff_ne, bne_eq_false_iff_eq, Bool.not_eq_true', Bool.not_eq_false', Bool.not_eq_true, Bool.not_eq_false, Int.not_le, Int.not_lt, Bool.and_eq_true, Bool.or_eq_true, Bool.or_eq_false_iff, Bool.and_eq_false_iff] at h); (try (exfalso; omega))) | skip) | ((with_reducible refine (?_ : chk _ _ = true)); kernel_rfl) | ((with_reducible refine (?_ : eqC (C.pvw _ _ _) (C.pvw _ _ _))); exact rfl) | exact trivial)
    have hn2 : n = L[i.toNat]'(by omega) := by rw [List.getElem?_eq_getElem (by omega)] at hn; exact (Option.some.inj hn).symm
    subst hn2
    refine ⟨(_, _, _), ?_, ?_, none, And.intro rfl (And.intro (by repeat' (first | exact trivial | exact rfl | (refine And.intro ?_ ?_))) (by repeat' (first | exact trivial | exact rfl | (refine And.intro ?_ ?_))))⟩
    · dsimp only
      rw [w1, show (i - 1 + 1).toNat = i.toNat by omega]
      exact ⟨by simp, by omega, by omega, hR⟩
    · dsimp only
      rw [w1]; omega
  have hi2 : i = -1 := by omega
  subst hi2
  rw [show (-1 + 1 : Int).toNat = 0 by decide, List.drop_zero] at g3
  subst g3
  rw [ints_len] at g0
  subst g0
  clear w1 g1 g2 hi
  repeat' (first | ((with_reducible refine (?_ : (_ : Bool) = _)); (with_reducible rfl)) | (with_reducible refine leafRB ?_) | (with_reducible refine leafI ?_) | (with_reducible refine leafB ?_) | ((with_reducible refine (?_ : (_ : Int) = _)); (with_reducible rfl)) | ((with_reducible refine (?_ : (_ : List (List Value)) = _)); (with_reducible rfl)) | ((with_reducible refine (?_ : (_ : Int) ≠ 0)); (first | assumption | omega)) | ((with_reducible refine (?_ : (_ : Int) ≤ _)); omega) | ((with_reducible refine (?_ : (_ : Int) < _)); omega) | ((with_reducible refine (?_ : (_ : Nat) ≤ _)); omega) | ((with_reducible refine (?_ : (_ : Nat) < _)); omega) | ((with_reducible refine (?_ : (_ : Nat) = _)); (first | (with_reducible rfl) | omega | (simp; done))) | (refine And.intro ?_ ?_) | (intro h; first | (exact Bool.noConfusion h) | ((simp only [decide_eq_true_eq, decide_eq_false_iff_not, beq_iff_eq, bne_iff_ne, ne_eq, beq_eq_false_iff_ne, bne_eq_false_iff_eq, Bool.not_eq_true', Bool.not_eq_false', Bool.not_eq_true, Bool.not_eq_false, Int.not_le, Int.not_lt, Bool.and_eq_true, Bool.or_eq_true, Bool.or_eq_false_iff, Bool.and_eq_false_iff] at h); (try (first | (exact absurd trivial h) | (exfalso; omega)))) | skip) | ((refine (?_ : ACall _ _ _ _ _ _ _)); first | ((apply acall (k5)); (focus ((repeat' (first | exact rfl | (refine And.intro ?_ ?_) | (simp only [ints_len]; done))); done))) | ((apply acall (k6)); (focus ((repeat' (first | exact rfl | (refine And.intro ?_ ?_) | (simp only [ints_len]; done))); done))) | ((apply acall (k7)); (focus ((repeat' (first | exact rfl | (refine And.intro ?_ ?_) | (simp only [ints_len]; done))); done))) | ((apply acall (k8)); (focus ((repeat' (first | exact rfl | (refine And.intro ?_ ?_) | (simp only [ints_len]; done))); done))) | ((apply acall (se)); (focus ((repeat' (first | exact rfl | (refine And.intro ?_ ?_) | (simp only [ints_len]; done))); done))) | ((apply acall (d2)); (focus ((repeat' (first | exact rfl | (refine And.intro ?_ ?_) | (simp only [ints_len]; done))); done))) | ((apply acall (k10)); (focus ((repeat' (first | exact rfl | (refine And.intro ?_ ?_) | (simp only [ints_len]; done))); done))) | ((apply acall (k11)); (focus ((repeat' (first | exact rfl | (refine And.intro ?_ ?_) | (simp only [ints_len]; done))); done)))) | ((with_reducible refine (?_ : chk _ _ = true)); kernel_rfl) | ((with_reducible refine (?_ : eqC (C.pvw _ _ _) (C.pvw _ _ _))); exact rfl) | exact trivial)
  refine loop_rule (σ := Int × Int) (fun s => [(37, I s.1), (38, I s.2)]) (fun s => [((44, 0), FI L), ((15, 0), FI L.reverse), ((139, 0), FI Q), ((144, 0), FI Q)]) (fun s => 0 ≤ s.2 ∧ s.2 ≤ m ∧ s.1 = r ^ s.2.toNat) (fun s => (m - s.2).toNat) ((1, 0)) ?_ (by repeat' (first | exact trivial | exact rfl | (refine And.intro ?_ ?_))) (by repeat' (first | exact trivial | exact rfl | (refine And.intro ?_ ?_))) (fun s => ⟨rfl, rfl⟩) (fun s i h => by first | exact absurd h (Nat.not_lt_zero i) | (cases i with | zero => rfl | succ i => exact absurd (Nat.lt_of_succ_lt_succ h) (Nat.not_lt_zero i))) ?_
  · exact ⟨by dsimp only; omega, by dsimp only; omega, by simp⟩
  rintro ⟨u, i⟩ ⟨e0, e1, e2⟩
  dsimp only at e0 e1 e2 ⊢
  have w1 : wrap64 (i + 1) = i + 1 := wrap_small (by omega) (by omega)
  by_cases hi : i < m
  · have w2 := pw_step s3 e0 hi s4
    rw [← e2] at w2
    repeat' (first | ((with_reducible refine (?_ : (_ : Bool) = _)); (with_reducible rfl)) | (with_reducible refine leafRB ?_) | (with_reducible refine leafI ?_) | (with_reducible refine leafB ?_) | ((with_reducible refine (?_ : (_ : Int) = _)); (with_reducible rfl)) | ((with_reducible refine (?_ : (_ : List (List Value)) = _)); (with_reducible rfl)) | ((with_reducible refine (?_ : (_ : Int) ≠ 0)); (first | assumption | omega)) | ((with_reducible refine (?_ : (_ : Int) ≤ _)); omega) | ((with_reducible refine (?_ : (_ : Int) < _)); omega) | ((with_reducible refine (?_ : (_ : Nat) ≤ _)); omega) | ((with_reducible refine (?_ : (_ : Nat) < _)); omega) | ((with_reducible refine (?_ : (_ : Nat) = _)); (first | (with_reducible rfl) | omega | (simp; done))) | (refine And.intro ?_ ?_) | (intro h; first | (exact Bool.noConfusion h) | ((simp only [decide_eq_true_eq, decide_eq_false_iff_not, beq_iff_eq, bne_iff_ne, ne_eq, beq_eq_false_iff_ne, bne_eq_false_iff_eq, Bool.not_eq_true', Bool.not_eq_false', Bool.not_eq_true, Bool.not_eq_false, Int.not_le, Int.not_lt, Bool.and_eq_true, Bool.or_eq_true, Bool.or_eq_false_iff, Bool.and_eq_false_iff] at h); (try (first | (exact absurd trivial h) | (exfalso; omega)))) | skip) | ((with_reducible refine (?_ : chk _ _ = true)); kernel_rfl) | ((with_reducible refine (?_ : eqC (C.pvw _ _ _) (C.pvw _ _ _))); exact rfl) | exact trivial)
    refine ⟨(_, _), ?_, ?_, none, And.intro rfl (And.intro (by repeat' (first | exact trivial | exact rfl | (refine And.intro ?_ ?_))) (by repeat' (first | exact trivial | exact rfl | (refine And.intro ?_ ?_))))⟩
    · dsimp only
      rw [w1, w2.1]
      exact ⟨by omega, by omega, w2.2⟩
    · dsimp only
      rw [w1]; omega
  have e3 : i = m := by omega
  subst e3
  rw [← e2] at s1
  have u0 : u ≠ 0 := by
    have h5 : 0 < r ^ i.toNat := Int.pow_pos (by omega)
    rw [e2]; omega
  repeat' (first | ((with_reducible refine (?_ : (_ : Bool) = _)); (with_reducible rfl)) | (with_reducible refine leafRB ?_) | (with_reducible refine leafI ?_) | (with_reducible refine leafB ?_) | ((with_reducible refine (?_ : (_ : Int) = _)); (with_reducible rfl)) | ((with_reducible refine (?_ : (_ : List (List Value)) = _)); (with_reducible rfl)) | ((with_reducible refine (?_ : (_ : Int) ≠ 0)); (first | assumption | omega)) | ((with_reducible refine (?_ : (_ : Int) ≤ _)); omega) | ((with_reducible refine (?_ : (_ : Int) < _)); omega) | ((with_reducible refine (?_ : (_ : Nat) ≤ _)); omega) | ((with_reducible refine (?_ : (_ : Nat) < _)); omega) | ((with_reducible refine (?_ : (_ : Nat) = _)); (first | (with_reducible rfl) | omega | (simp; done))) | (refine And.intro ?_ ?_) | (intro h; first | (exact Bool.noConfusion h) | ((simp only [decide_eq_true_eq, decide_eq_false_iff_not, beq_iff_eq, bne_iff_ne, ne_eq, beq_eq_false_iff_ne, bne_eq_false_iff_eq, Bool.not_eq_true', Bool.not_eq_false', Bool.not_eq_true, Bool.not_eq_false, Int.not_le, Int.not_lt, Bool.and_eq_true, Bool.or_eq_true, Bool.or_eq_false_iff, Bool.and_eq_false_iff] at h); (try (first | (exact absurd trivial h) | (exfalso; omega)))) | skip) | ((with_reducible refine (?_ : chk _ _ = true)); kernel_rfl) | ((with_reducible refine (?_ : eqC (C.pvw _ _ _) (C.pvw _ _ _))); exact rfl) | exact trivial)
  all_goals exact absurd s1 h

theorem is_Btf (v v' : Value) (l l' : List Int) (L Q : List Int) (p a b r m hs x y z : Int)
    (hc : AFun Try.prog 4 [] [By v l, By v' l'] (Bo false) [] [])
    (d1 : AFun Try.prog 5 [] [.c (.pvw v 1 (byts l))] (.tup [(false, [.slc (0, 0) L.length]), (false, [cI p])]) [] [FI L])
    (d2 : AFun Try.prog 14 [] [.c (.pvw v' 1 (byts l'))] (.tup [(false, [cI a]), (false, [cI b]), (false, [cI r]), (false, [cI m])]) [] [])
    (k1 : AFun Try.prog 6 [] [Vw L, I p] (PBB false true) [] []) (k2 : AFun Try.prog 7 [] [Vw L, I p] (PBB false true) [] [])
    (k3 : AFun Try.prog 8 [] [Vw L, I p] (PI hs true) [] []) (k4 : AFun Try.prog 9 [] [Vw L, I p] (PI hs true) [] [])
    (k5 : AFun Try.prog 6 [] [Vw L.reverse, I p] (PBB false true) [] []) (k6 : AFun Try.prog 8 [] [Vw L.reverse, I p] (PI hs true) [] [])
    (k7 : AFun Try.prog 10 [] [Vw L] (PS Q.length true) [] [FI Q]) (k8 : AFun Try.prog 11 [] [Vw L] (PS Q.length true) [] [FI Q])
    (k9 : AFun Try.prog 13 [] [Vw Q, I p] (Bo true) [] [])
    (k10 : AFun Try.prog 15 [] [I a, I b, I r, I m] (P4 x y z false) [] []) (k11 : AFun Try.prog 16 [] [I a, I b, I r, I m] (P4 x y z false) [] [])
    (hL : L.length ≤ 9) (hQ : Q.length ≤ 10000000) (q3 : L.length = 3 → (Q.length : Int).tmod 2 = 0) (q4 : 4 < L.length → Q.length ≤ 1) : AFun Try.prog 3 [] [By v l, By v' l'] (Bo true) [] [] := by
  have il := ints_len L
  have iq := ints_len Q
  have se := laws_sameInts Q Q (by omega) (by omega)
  rw [decide_eq_true rfl] at se
  refine afun_intro fn3 rfl rfl (by repeat' (first | exact trivial | (simp; done) | refine ⟨?_, ?_⟩)) ?_
  unfold ac3
  repeat' (first | ((with_reducible refine (?_ : (_ : Bool) = _)); (with_reducible rfl)) | (with_reducible refine leafRB ?_) | (with_reducible refine leafI ?_) | (with_reducible refine leafB ?_) | ((with_reducible refine (?_ : (_ : Int) = _)); (with_reducible rfl)) | ((with_reducible refine (?_ : (_ : List (List Value)) = _)); (with_reducible rfl)) | ((with_reducible refine (?_ : (_ : Int) ≠ 0)); (first | assumption | omega)) | ((with_reducible refine (?_ : (_ : Int) ≤ _)); omega) | ((with_reducible refine (?_ : (_ : Int) < _)); omega) | ((with_reducible refine (?_ : (_ : Nat) ≤ _)); omega) | ((with_reducible refine (?_ : (_ : Nat) < _)); omega) | ((with_reducible refine (?_ : (_ : Nat) = _)); (first | (with_reducible rfl) | omega | (simp; done))) | (refine And.intro ?_ ?_) | (intro h; first | (exact Bool.noConfusion h) | ((simp only [decide_eq_true_eq, decide_eq_false_iff_not, beq_iff_eq, bne_iff_ne, ne_eq, beq_eq_false_iff_ne, bne_eq_false_iff_eq, Bool.not_eq_true', Bool.not_eq_false', Bool.not_eq_true, Bool.not_eq_false, Int.not_le, Int.not_lt, Bool.and_eq_true, Bool.or_eq_true, Bool.or_eq_false_iff, Bool.and_eq_false_iff] at h); (try (exact absurd trivial h))) | skip) | ((refine (?_ : ACall _ _ _ _ _ _ _)); first | ((apply acall (hc)); (focus ((repeat' (first | exact rfl | (refine And.intro ?_ ?_) | (simp only [ints_len]; done))); done))) | ((apply acall (d1)); (focus ((repeat' (first | exact rfl | (refine And.intro ?_ ?_) | (simp only [ints_len]; done))); done))) | ((apply acall (k1)); (focus ((repeat' (first | exact rfl | (refine And.intro ?_ ?_) | (simp only [ints_len]; done))); done))) | ((apply acall (k2)); (focus ((repeat' (first | exact rfl | (refine And.intro ?_ ?_) | (simp only [ints_len]; done))); done))) | ((apply acall (k3)); (focus ((repeat' (first | exact rfl | (refine And.intro ?_ ?_) | (simp only [ints_len]; done))); done))) | ((apply acall (k4)); (focus ((repeat' (first | exact rfl | (refine And.intro ?_ ?_) | (simp only [ints_len]; done))); done)))) | ((with_reducible refine (?_ : chk _ _ = true)); kernel_rfl) | ((with_reducible refine (?_ : eqC (C.pvw _ _ _) (C.pvw _ _ _))); exact rfl) | exact trivial)
  refine loop_rule (σ := Nat × List (List Value) × Int) (fun s => [(15, .c (.slc (15, 0) s.1)), (16, I s.2.2)]) (fun s => [((44, 0), FI L), ((15, 0), .fl 3 1 s.2.1)]) (fun s => s.1 = s.2.1.length ∧ -1 ≤ s.2.2 ∧ s.2.2 ≤ (L.length : Int) - 1 ∧ s.2.1 = ints ((L.drop (s.2.2 + 1).toNat).reverse)) (fun s => (s.2.2 + 1).toNat) ((0, [], wrap64 (L.length - 1))) ?_ (by repeat' (first | exact trivial | exact rfl | (refine And.intro ?_ ?_))) (by repeat' (first | exact trivial | exact rfl | (refine And.intro ?_ ?_))) (fun s => ⟨rfl, rfl⟩) (fun s i h => by first | exact absurd h (Nat.not_lt_zero i) | (cases i with | zero => rfl | succ i => exact absurd (Nat.lt_of_succ_lt_succ h) (Nat.not_lt_zero i))) ?_
  · have w1 : wrap64 ((L.length : Int) - 1) = L.length - 1 := wrap_small (by omega) (by omega)
    dsimp only
    rw [w1, show ((L.length : Int) - 1 + 1).toNat = L.length by omega, List.drop_length]
    exact ⟨rfl, by omega, by omega, rfl⟩
  rintro ⟨k, R, i⟩ ⟨g0, g1, g2, g3⟩
  dsimp only at g0 g1 g2 g3 ⊢
  have w1 : wrap64 (i - 1) = i - 1 := wrap_small (by omega) (by omega)
  by_cases hi : 0 ≤ i
  · have hd : L.drop i.toNat = L[i.toNat]'(by omega) :: L.drop (i + 1).toNat := by
      rw [show (i + 1).toNat = i.toNat + 1 by omega]
      exact List.drop_eq_getElem_cons (by omega)
    have hR : R ++ [[.int .i64 (L[i.toNat]'(by omega))]] = ints ((L.drop i.toNat).reverse) := by
      rw [hd, List.reverse_cons, ints_app, g3]
      rfl
    have hl : R.length ≤ 9 := by rw [g3, ints_len, List.length_reverse, List.length_drop]; omega
    clear hc d1 d2 k1 k2 k3 k4 k5 k6 k7 k8 k9 k10 k11
    repeat' (first | ((with_reducible refine (?_ : (_ : Bool) = _)); (with_reducible rfl)) | (with_reducible refine leafRB ?_) | (with_reducible refine leafI ?_) | (with_reducible refine leafB ?_) | ((with_reducible refine (?_ : (_ : Int) = _)); (with_reducible rfl)) | ((with_reducible refine (?_ : (_ : List (List Value)) = _)); (with_reducible rfl)) | ((with_reducible refine (?_ : (_ : Int) ≠ 0)); (first | assumption | omega)) | ((with_reducible refine (?_ : (_ : Int) ≤ _)); omega) | ((with_reducible refine (?_ : (_ : Int) < _)); omega) | ((with_reducible refine (?_ : (_ : Nat) ≤ _)); (first | omega | (simp only [List.length_cons, List.length_nil]; omega))) | ((with_reducible refine (?_ : (_ : Nat) < _)); (first | omega | (simp only [List.length_cons, List.length_nil]; omega))) | ((with_reducible refine (?_ : (_ : Nat) = _)); (first | (with_reducible rfl) | omega | (simp; done))) | ((with_reducible refine view_at ?_ ?_); (focus (constructor <;> (first | omega | (simp only [ints_len] at *; omega)))); intro n hn) | (refine And.intro ?_ ?_) | (intro h; first | (exact Bool.noConfusion h) | ((simp only [decide_eq_true_eq, decide_eq_false_iff_not, beq_iff_eq, bne_iff_ne, ne_eq, beq_eq_false_iff_ne, bne_eq_false_iff_eq, Bool.not_eq_true', Bool.not_eq_false', Bool.not_eq_true, Bool.not_eq_false, Int.not_le, Int.not_lt, Bool.and_eq_true, Bool.or_eq_true, Bool.or_eq_false_iff, Bool.and_eq_false_iff] at h); (try (exfalso; omega))) | skip) | ((with_reducible refine (?_ : chk _ _ = true)); kernel_rfl) | ((with_reducible refine (?_ : eqC (C.pvw _ _ _) (C.pvw _ _ _))); exact rfl) | exact trivial)
    have hn2 : n = L[i.toNat]'(by omega) := by rw [List.getElem?_eq_getElem (by omega)] at hn; exact (Option.some.inj hn).symm
    subst hn2
    refine ⟨(_, _, _), ?_, ?_, none, And.intro rfl (And.intro (by repeat' (first | exact trivial | exact rfl | (refine And.intro ?_ ?_))) (by repeat' (first | exact trivial | exact rfl | (refine And.intro ?_ ?_))))⟩
    · dsimp only
      rw [w1, show (i - 1 + 1).toNat = i.toNat by omega]
      exact ⟨by simp, by omega, by omega, hR⟩
    · dsimp only
      rw [w1]; omega
  have hi2 : i = -1 := by omega
  subst hi2
  rw [show (-1 + 1 : Int).toNat = 0 by decide, List.drop_zero] at g3
  subst g3
  rw [ints_len] at g0
  subst g0
  clear w1 g1 g2 hi
  repeat' (first | ((with_reducible refine (?_ : (_ : Bool) = _)); (with_reducible rfl)) | (with_reducible refine leafRB ?_) | (with_reducible refine leafI ?_) | (with_reducible refine leafB ?_) | ((with_reducible refine (?_ : (_ : Int) = _)); (with_reducible rfl)) | ((with_reducible refine (?_ : (_ : List (List Value)) = _)); (with_reducible rfl)) | ((with_reducible refine (?_ : (_ : Int) ≠ 0)); (first | assumption | omega)) | ((with_reducible refine (?_ : (_ : Int) ≤ _)); omega) | ((with_reducible refine (?_ : (_ : Int) < _)); omega) | ((with_reducible refine (?_ : (_ : Nat) ≤ _)); omega) | ((with_reducible refine (?_ : (_ : Nat) < _)); omega) | ((with_reducible refine (?_ : (_ : Nat) = _)); (first | (with_reducible rfl) | omega | (simp; done))) | (refine And.intro ?_ ?_) | (intro h; first | (exact Bool.noConfusion h) | ((simp only [decide_eq_true_eq, decide_eq_false_iff_not, beq_iff_eq, bne_iff_ne, ne_eq, beq_eq_false_iff_ne, bne_eq_false_iff_eq, Bool.not_eq_true', Bool.not_eq_false', Bool.not_eq_true, Bool.not_eq_false, Int.not_le, Int.not_lt, Bool.and_eq_true, Bool.or_eq_true, Bool.or_eq_false_iff, Bool.and_eq_false_iff] at h); (try (first | (exact absurd trivial h) | (exfalso; omega)))) | skip) | ((refine (?_ : ACall _ _ _ _ _ _ _)); first | ((apply acall (k5)); (focus ((repeat' (first | exact rfl | (refine And.intro ?_ ?_) | (simp only [ints_len]; done))); done))) | ((apply acall (k6)); (focus ((repeat' (first | exact rfl | (refine And.intro ?_ ?_) | (simp only [ints_len]; done))); done))) | ((apply acall (k7)); (focus ((repeat' (first | exact rfl | (refine And.intro ?_ ?_) | (simp only [ints_len]; done))); done))) | ((apply acall (k8)); (focus ((repeat' (first | exact rfl | (refine And.intro ?_ ?_) | (simp only [ints_len]; done))); done))) | ((apply acall (se)); (focus ((repeat' (first | exact rfl | (refine And.intro ?_ ?_) | (simp only [ints_len]; done))); done))) | ((apply acall (k9)); (focus ((repeat' (first | exact rfl | (refine And.intro ?_ ?_) | (simp only [ints_len]; done))); done))) | ((apply acall (d2)); (focus ((repeat' (first | exact rfl | (refine And.intro ?_ ?_) | (simp only [ints_len]; done))); done))) | ((apply acall (k10)); (focus ((repeat' (first | exact rfl | (refine And.intro ?_ ?_) | (simp only [ints_len]; done))); done))) | ((apply acall (k11)); (focus ((repeat' (first | exact rfl | (refine And.intro ?_ ?_) | (simp only [ints_len]; done))); done)))) | ((with_reducible refine (?_ : chk _ _ = true)); kernel_rfl) | ((with_reducible refine (?_ : eqC (C.pvw _ _ _) (C.pvw _ _ _))); exact rfl) | exact trivial)
  all_goals try ((with_reducible refine (?_ : (false : Bool) = true)); exfalso; first | omega | (have := q3 (by omega); simp_all; done) | (have := q3 (by omega); omega) | (have := q4 (by omega); omega))

theorem is_Btt (v v' : Value) (l l' : List Int) (L Q : List Int) (p a b r m hs x y z : Int)
    (hc : AFun Try.prog 4 [] [By v l, By v' l'] (Bo false) [] [])
    (d1 : AFun Try.prog 5 [] [.c (.pvw v 1 (byts l))] (.tup [(false, [.slc (0, 0) L.length]), (false, [cI p])]) [] [FI L])
    (d2 : AFun Try.prog 14 [] [.c (.pvw v' 1 (byts l'))] (.tup [(false, [cI a]), (false, [cI b]), (false, [cI r]), (false, [cI m])]) [] [])
    (k1 : AFun Try.prog 6 [] [Vw L, I p] (PBB false true) [] []) (k2 : AFun Try.prog 7 [] [Vw L, I p] (PBB false true) [] [])
    (k3 : AFun Try.prog 8 [] [Vw L, I p] (PI hs true) [] []) (k4 : AFun Try.prog 9 [] [Vw L, I p] (PI hs true) [] [])
    (k5 : AFun Try.prog 6 [] [Vw L.reverse, I p] (PBB false true) [] []) (k6 : AFun Try.prog 8 [] [Vw L.reverse, I p] (PI hs true) [] [])
    (k7 : AFun Try.prog 10 [] [Vw L] (PS Q.length true) [] [FI Q]) (k8 : AFun Try.prog 11 [] [Vw L] (PS Q.length true) [] [FI Q])
    (k9 : AFun Try.prog 13 [] [Vw Q, I p] (Bo true) [] [])
    (k10 : AFun Try.prog 15 [] [I a, I b, I r, I m] (P4 x y z true) [] []) (k11 : AFun Try.prog 16 [] [I a, I b, I r, I m] (P4 x y z true) [] [])
    (hL : L.length ≤ 9) (hQ : Q.length ≤ 10000000) (q3 : L.length = 3 → (Q.length : Int).tmod 2 = 0) (q4 : 4 < L.length → Q.length ≤ 1)
    (s1 : (wrap64 (wrap64 (wrap64 (wrap64 (a * x) * x) + wrap64 (wrap64 (b * y) * y)) - wrap64 (z * z))).tmod (r ^ m.toNat) = 0) (s2 : 1 ≤ m) (s3 : 2 ≤ r) (s4 : r ^ m.toNat ≤ 64) (s5 : m ≤ 1000000) : AFun Try.prog 3 [] [By v l, By v' l'] (Bo true) [] [] := by
  have il := ints_len L
  have iq := ints_len Q
  have se := laws_sameInts Q Q (by omega) (by omega)
  rw [decide_eq_true rfl] at se
  refine afun_intro fn3 rfl rfl (by repeat' (first | exact trivial | (simp; done) | refine ⟨?_, ?_⟩)) ?_
  unfold ac3
  repeat' (first | ((with_reducible refine (?_ : (_ : Bool) = _)); (with_reducible rfl)) | (with_reducible refine leafRB ?_) | (with_reducible refine leafI ?_) | (with_reducible refine leafB ?_) | ((with_reducible refine (?_ : (_ : Int) = _)); (with_reducible rfl)) | ((with_reducible refine (?_ : (_ : List (List Value)) = _)); (with_reducible rfl)) | ((with_reducible refine (?_ : (_ : Int) ≠ 0)); (first | assumption | omega)) | ((with_reducible refine (?_ : (_ : Int) ≤ _)); omega) | ((with_reducible refine (?_ : (_ : Int) < _)); omega) | ((with_reducible refine (?_ : (_ : Nat) ≤ _)); omega) | ((with_reducible refine (?_ : (_ : Nat) < _)); omega) | ((with_reducible refine (?_ : (_ : Nat) = _)); (first | (with_reducible rfl) | omega | (simp; done))) | (refine And.intro ?_ ?_) | (intro h; first | (exact Bool.noConfusion h) | ((simp only [decide_eq_true_eq, decide_eq_false_iff_not, beq_iff_eq, bne_iff_ne, ne_eq, beq_eq_false_iff_ne, bne_eq_false_iff_eq, Bool.not_eq_true', Bool.not_eq_false', Bool.not_eq_true, Bool.not_eq_false, Int.not_le, Int.not_lt, Bool.and_eq_true, Bool.or_eq_true, Bool.or_eq_false_iff, Bool.and_eq_false_iff] at h); (try (exact absurd trivial h))) | skip) | ((refine (?_ : ACall _ _ _ _ _ _ _)); first | ((apply acall (hc)); (focus ((repeat' (first | exact rfl | (refine And.intro ?_ ?_) | (simp only [ints_len]; done))); done))) | ((apply acall (d1)); (focus ((repeat' (first | exact rfl | (refine And.intro ?_ ?_) | (simp only [ints_len]; done))); done))) | ((apply acall (k1)); (focus ((repeat' (first | exact rfl | (refine And.intro ?_ ?_) | (simp only [ints_len]; done))); done))) | ((apply acall (k2)); (focus ((repeat' (first | exact rfl | (refine And.intro ?_ ?_) | (simp only [ints_len]; done))); done))) | ((apply acall (k3)); (focus ((repeat' (first | exact rfl | (refine And.intro ?_ ?_) | (simp only [ints_len]; done))); done))) | ((apply acall (k4)); (focus ((repeat' (first | exact rfl | (refine And.intro ?_ ?_) | (simp only [ints_len]; done))); done)))) | ((with_reducible refine (?_ : chk _ _ = true)); kernel_rfl) | ((with_reducible refine (?_ : eqC (C.pvw _ _ _) (C.pvw _ _ _))); exact rfl) | exact trivial)
  refine loop_rule (σ := Nat × List (List Value) × Int) (fun s => [(15, .c (.slc (15, 0) s.1)), (16, I s.2.2)]) (fun s => [((44, 0), FI L), ((15, 0), .fl 3 1 s.2.1)]) (fun s => s.1 = s.2.1.length ∧ -1 ≤ s.2.2 ∧ s.2.2 ≤ (L.length : Int) - 1 ∧ s.2.1 = ints ((L.drop (s.2.2 + 1).toNat).reverse)) (fun s => (s.2.2 + 1).toNat) ((0, [], wrap64 (L.length - 1))) ?_ (by repeat' (first | exact trivial | exact rfl | (refine And.intro ?_ ?_))) (by repeat' (first | exact trivial | exact rfl | (refine And.intro ?_ ?_))) (fun s => ⟨rfl, rfl⟩) (fun s i h => by first | exact absurd h (Nat.not_lt_zero i) | (cases i with | zero => rfl | succ i => exact absurd (Nat.lt_of_succ_lt_succ h) (Nat.not_lt_zero i))) ?_
  · have w1 : wrap64 ((L.length : Int) - 1) = L.length - 1 := wrap_small (by omega) (by omega)
    dsimp only
    rw [w1, show ((L.length : Int) - 1 + 1).toNat = L.length by omega, List.drop_length]
    exact ⟨rfl, by omega, by omega, rfl⟩
  rintro ⟨k, R, i⟩ ⟨g0, g1, g2, g3⟩
  dsimp only at g0 g1 g2 g3 ⊢
  have w1 : wrap64 (i - 1) = i - 1 := wrap_small (by omega) (by omega)
  by_cases hi : 0 ≤ i
  · have hd : L.drop i.toNat = L[i.toNat]'(by omega) :: L.drop (i + 1).toNat := by
      rw [show (i + 1).toNat = i.toNat + 1 by omega]
      exact List.drop_eq_getElem_cons (by omega)
    have hR : R ++ [[.int .i64 (L[i.toNat]'(by omega))]] = ints ((L.drop i.toNat).reverse) := by
      rw [hd, List.reverse_cons, ints_app, g3]
      rfl
    have hl : R.length ≤ 9 := by rw [g3, ints_len, List.length_reverse, List.length_drop]; omega
    clear hc d1 d2 k1 k2 k3 k4 k5 k6 k7 k8 k9 k10 k11
    repeat' (first | ((with_reducible refine (?_ : (_ : Bool) = _)); (with_reducible rfl)) | (with_reducible refine leafRB ?_) | (with_reducible refine leafI ?_) | (with_reducible refine leafB ?_) | ((with_reducible refine (?_ : (_ : Int) = _)); (with_reducible rfl)) | ((with_reducible refine (?_ : (_ : List (List Value)) = _)); (with_reducible rfl)) | ((with_reducible refine (?_ : (_ : Int) ≠ 0)); (first | assumption | omega)) | ((with_reducible refine (?_ : (_ : Int) ≤ _)); omega) | ((with_reducible refine (?_ : (_ : Int) < _)); omega) | ((with_reducible refine (?_ : (_ : Nat) ≤ _)); (first | omega | (simp only [List.length_cons, List.length_nil]; omega))) | ((with_reducible refine (?_ : (_ : Nat) < _)); (first | omega | (simp only [List.length_cons, List.length_nil]; omega))) | ((with_reducible refine (?_ : (_ : Nat) = _)); (first | (with_reducible rfl) | omega | (simp; done))) | ((with_reducible refine view_at ?_ ?_); (focus (constructor <;> (first | omega | (simp only [ints_len] at *; omega)))); intro n hn) | (refine And.intro ?_ ?_) | (intro h; first | (exact Bool.noConfusion h) | ((simp only [decide_eq_true_eq, decide_eq_false_iff_not, beq_iff_eq, bne_iff_ne, ne_eq, beq_eq_false_iff_ne, bne_eq_false_iff_eq, Bool.not_eq_true', Bool.not_eq_false', Bool.not_eq_true, Bool.not_eq_false, Int.not_le, Int.not_lt, Bool.and_eq_true, Bool.or_eq_true, Bool.or_eq_false_iff, Bool.and_eq_false_iff] at h); (try (exfalso; omega))) | skip) | ((with_reducible refine (?_ : chk _ _ = true)); kernel_rfl) | ((with_reducible refine (?_ : eqC (C.pvw _ _ _) (C.pvw _ _ _))); exact rfl) | exact trivial)
    have hn2 : n = L[i.toNat]'(by omega) := by rw [List.getElem?_eq_getElem (by omega)] at hn; exact (Option.some.inj hn).symm
    subst hn2
    refine ⟨(_, _, _), ?_, ?_, none, And.intro rfl (And.intro (by repeat' (first | exact trivial | exact rfl | (refine And.intro ?_ ?_))) (by repeat' (first | exact trivial | exact rfl | (refine And.intro ?_ ?_))))⟩
    · dsimp only
      rw [w1, show (i - 1 + 1).toNat = i.toNat by omega]
      exact ⟨by simp, by omega, by omega, hR⟩
    · dsimp only
      rw [w1]; omega
  have hi2 : i = -1 := by omega
  subst hi2
  rw [show (-1 + 1 : Int).toNat = 0 by decide, List.drop_zero] at g3
  subst g3
  rw [ints_len] at g0
  subst g0
  clear w1 g1 g2 hi
  repeat' (first | ((with_reducible refine (?_ : (_ : Bool) = _)); (with_reducible rfl)) | (with_reducible refine leafRB ?_) | (with_reducible refine leafI ?_) | (with_reducible refine leafB ?_) | ((with_reducible refine (?_ : (_ : Int) = _)); (with_reducible rfl)) | ((with_reducible refine (?_ : (_ : List (List Value)) = _)); (with_reducible rfl)) | ((with_reducible refine (?_ : (_ : Int) ≠ 0)); (first | assumption | omega)) | ((with_reducible refine (?_ : (_ : Int) ≤ _)); omega) | ((with_reducible refine (?_ : (_ : Int) < _)); omega) | ((with_reducible refine (?_ : (_ : Nat) ≤ _)); omega) | ((with_reducible refine (?_ : (_ : Nat) < _)); omega) | ((with_reducible refine (?_ : (_ : Nat) = _)); (first | (with_reducible rfl) | omega | (simp; done))) | (refine And.intro ?_ ?_) | (intro h; first | (exact Bool.noConfusion h) | ((simp only [decide_eq_true_eq, decide_eq_false_iff_not, beq_iff_eq, bne_iff_ne, ne_eq, beq_eq_false_iff_ne, bne_eq_false_iff_eq, Bool.not_eq_true', Bool.not_eq_false', Bool.not_eq_true, Bool.not_eq_false, Int.not_le, Int.not_lt, Bool.and_eq_true, Bool.or_eq_true, Bool.or_eq_false_iff, Bool.and_eq_false_iff] at h); (try (first | (exact absurd trivial h) | (exfalso; omega)))) | skip) | ((refine (?_ : ACall _ _ _ _ _ _ _)); first | ((apply acall (k5)); (focus ((repeat' (first | exact rfl | (refine And.intro ?_ ?_) | (simp only [ints_len]; done))); done))) | ((apply acall (k6)); (focus ((repeat' (first | exact rfl | (refine And.intro ?_ ?_) | (simp only [ints_len]; done))); done))) | ((apply acall (k7)); (focus ((repeat' (first | exact rfl | (refine And.intro ?_ ?_) | (simp only [ints_len]; done))); done))) | ((apply acall (k8)); (focus ((repeat' (first | exact rfl | (refine And.intro ?_ ?_) | (simp only [ints_len]; done))); done))) | ((apply acall (se)); (focus ((repeat' (first | exact rfl | (refine And.intro ?_ ?_) | (simp only [ints_len]; done))); done))) | ((apply acall (k9)); (focus ((repeat' (first | exact rfl | (refine And.intro ?_ ?_) | (simp only [ints_len]; done))); done))) | ((apply acall (d2)); (focus ((repeat' (first | exact rfl | (refine And.intro ?_ ?_) | (simp only [ints_len]; done))); done))) | ((apply acall (k10)); (focus ((repeat' (first | exact rfl | (refine And.intro ?_ ?_) | (simp only [ints_len]; done))); done))) | ((apply acall (k11)); (focus ((repeat' (first | exact rfl | (refine And.intro ?_ ?_) | (simp only [ints_len]; done))); done)))) | ((with_reducible refine (?_ : chk _ _ = true)); kernel_rfl) | ((with_reducible refine (?_ : eqC (C.pvw _ _ _) (C.pvw _ _ _))); exact rfl) | exact trivial)
  all_goals try ((with_reducible refine (?_ : (false : Bool) = true)); exfalso; first | omega | (have := q3 (by omega); simp_all; done) | (have := q3 (by omega); omega) | (have := q4 (by omega); omega))
  all_goals (
    refine loop_rule (σ := Int × Int) (fun s => [(37, I s.1), (38, I s.2)]) (fun s => [((44, 0), FI L), ((15, 0), FI L.reverse), ((139, 0), FI Q), ((144, 0), FI Q)]) (fun s => 0 ≤ s.2 ∧ s.2 ≤ m ∧ s.1 = r ^ s.2.toNat) (fun s => (m - s.2).toNat) ((1, 0)) ?_ (by repeat' (first | exact trivial | exact rfl | (refine And.intro ?_ ?_))) (by repeat' (first | exact trivial | exact rfl | (refine And.intro ?_ ?_))) (fun s => ⟨rfl, rfl⟩) (fun s i h => by first | exact absurd h (Nat.not_lt_zero i) | (cases i with | zero => rfl | succ i => exact absurd (Nat.lt_of_succ_lt_succ h) (Nat.not_lt_zero i))) ?_
    · exact ⟨by dsimp only; omega, by dsimp only; omega, by simp⟩
    rintro ⟨u, i⟩ ⟨e0, e1, e2⟩
    dsimp only at e0 e1 e2 ⊢
    have w1 : wrap64 (i + 1) = i + 1 := wrap_small (by omega) (by omega)
    by_cases hi : i < m
    · have w2 := pw_step s3 e0 hi s4
      rw [← e2] at w2
      repeat' (first | ((with_reducible refine (?_ : (_ : Bool) = _)); (with_reducible rfl)) | (with_reducible refine leafRB ?_) | (with_reducible refine leafI ?_) | (with_reducible refine leafB ?_) | ((with_reducible refine (?_ : (_ : Int) = _)); (with_reducible rfl)) | ((with_reducible refine (?_ : (_ : List (List Value)) = _)); (with_reducible rfl)) | ((with_reducible refine (?_ : (_ : Int) ≠ 0)); (first | assumption | omega)) | ((with_reducible refine (?_ : (_ : Int) ≤ _)); omega) | ((with_reducible refine (?_ : (_ : Int) < _)); omega) | ((with_reducible refine (?_ : (_ : Nat) ≤ _)); omega) | ((with_reducible refine (?_ : (_ : Nat) < _)); omega) | ((with_reducible refine (?_ : (_ : Nat) = _)); (first | (with_reducible rfl) | omega | (simp; done))) | (refine And.intro ?_ ?_) | (intro h; first | (exact Bool.noConfusion h) | ((simp only [decide_eq_true_eq, decide_eq_false_iff_not, beq_iff_eq, bne_iff_ne, ne_eq, beq_eq_false_iff_ne, bne_eq_false_iff_eq, Bool.not_eq_true', Bool.not_eq_false', Bool.not_eq_true, Bool.not_eq_false, Int.not_le, Int.not_lt, Bool.and_eq_true, Bool.or_eq_true, Bool.or_eq_false_iff, Bool.and_eq_false_iff] at h); (try (first | (exact absurd trivial h) | (exfalso; omega)))) | skip) | ((with_reducible refine (?_ : chk _ _ = true)); kernel_rfl) | ((with_reducible refine (?_ : eqC (C.pvw _ _ _) (C.pvw _ _ _))); exact rfl) | exact trivial)
      refine ⟨(_, _), ?_, ?_, none, And.intro rfl (And.intro (by repeat' (first | exact trivial | exact rfl | (refine And.intro ?_ ?_))) (by repeat' (first | exact trivial | exact rfl | (refine And.intro ?_ ?_))))⟩
      · dsimp only
        rw [w1, w2.1]
        exact ⟨by omega, by omega, w2.2⟩
      · dsimp only
        rw [w1]; omega
    have e3 : i = m := by omega
    subst e3
    rw [← e2] at s1
    have u0 : u ≠ 0 := by
      have h5 : 0 < r ^ i.toNat := Int.pow_pos (by omega)
      rw [e2]; omega
    repeat' (first | ((with_reducible refine (?_ : (_ : Bool) = _)); (with_reducible rfl)) | (with_reducible refine leafRB ?_) | (with_reducible refine leafI ?_) | (with_reducible refine leafB ?_) | ((with_reducible refine (?_ : (_ : Int) = _)); (with_reducible rfl)) | ((with_reducible refine (?_ : (_ : List (List Value)) = _)); (with_reducible rfl)) | ((with_reducible refine (?_ : (_ : Int) ≠ 0)); (first | assumption | omega)) | ((with_reducible refine (?_ : (_ : Int) ≤ _)); omega) | ((with_reducible refine (?_ : (_ : Int) < _)); omega) | ((with_reducible refine (?_ : (_ : Nat) ≤ _)); omega) | ((with_reducible refine (?_ : (_ : Nat) < _)); omega) | ((with_reducible refine (?_ : (_ : Nat) = _)); (first | (with_reducible rfl) | omega | (simp; done))) | (refine And.intro ?_ ?_) | (intro h; first | (exact Bool.noConfusion h) | ((simp only [decide_eq_true_eq, decide_eq_false_iff_not, beq_iff_eq, bne_iff_ne, ne_eq, beq_eq_false_iff_ne, bne_eq_false_iff_eq, Bool.not_eq_true', Bool.not_eq_false', Bool.not_eq_true, Bool.not_eq_false, Int.not_le, Int.not_lt, Bool.and_eq_true, Bool.or_eq_true, Bool.or_eq_false_iff, Bool.and_eq_false_iff] at h); (try (first | (exact absurd trivial h) | (exfalso; omega)))) | skip) | ((with_reducible refine (?_ : chk _ _ = true)); kernel_rfl) | ((with_reducible refine (?_ : eqC (C.pvw _ _ _) (C.pvw _ _ _))); exact rfl) | exact trivial)
    all_goals exact absurd s1 h
  )

end Go.Proofs.Ytfcndlagnhaafaa
