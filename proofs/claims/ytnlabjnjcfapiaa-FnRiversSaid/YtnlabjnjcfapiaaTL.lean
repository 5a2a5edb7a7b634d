/- The law on rivers. -/
import Derived.Test.YtnlabjnjcfapiaaTK
import Derived.Test.YtnlabjnjcfapiaaTJ
namespace Go.Proofs.Ytnlabjnjcfapiaa
open Go.RowKit
set_option linter.unusedSimpArgs false
set_option linter.unusedVariables false
set_option maxRecDepth 100000
set_option maxHeartbeats 4000000

abbrev By (v : Value) (l : List Int) : V := .c (.pvw v 1 (byts l))
theorem laws_big (v v' : Value) (l l' : List Int) (h : l.length ≤ 9223372036854775807) : AFun Try.prog 4 [] [By v l, By v' l'] (Bo (decide (1048576 < l.length) || decide (1048576 - l.length < l'.length))) [] [] := by
  have e1 := byts_len l
  have e2 := byts_len l'
  refine afun_intro fn4 rfl rfl (by repeat' (first | exact trivial | (simp; done) | refine ⟨?_, ?_⟩)) ?_
  unfold ac4
  repeat' (first | ((with_reducible refine (?_ : (_ : Bool) = _)); (with_reducible rfl)) | ((with_reducible refine (?_ : (_ : Nat × Nat) = _)); (with_reducible rfl)) | (with_reducible refine leafRI ?_) | (with_reducible refine leafRB ?_) | (with_reducible refine leafI ?_) | (with_reducible refine leafB ?_) | ((with_reducible refine (?_ : (_ : Int) = _)); (with_reducible rfl)) | ((with_reducible refine (?_ : (_ : List (List Value)) = _)); (with_reducible rfl)) | ((with_reducible refine (?_ : (_ : Int) ≠ 0)); (first | assumption | omega | (simp; done) | (simp only [ints_len] at *; omega) | (simp; omega))) | ((with_reducible refine (?_ : (_ : Int) ≤ _)); (first | assumption | omega | (simp; done) | (simp only [ints_len] at *; omega) | (simp; omega))) | ((with_reducible refine (?_ : (_ : Int) < _)); (first | assumption | omega | (simp; done) | (simp only [ints_len] at *; omega) | (simp; omega))) | ((with_reducible refine (?_ : (_ : Nat) ≤ _)); (first | omega | (simp only [List.length_cons, List.length_nil]; omega) | (simp [ints]; done) | (simp; omega))) | ((with_reducible refine (?_ : (_ : Nat) < _)); (first | omega | (simp only [List.length_cons, List.length_nil]; omega) | (simp [ints]; done) | (simp; omega))) | ((with_reducible refine (?_ : (_ : Nat) = _)); (first | (with_reducible rfl) | (simp; done) | (simp only [fr_len]) | (simp only [ints_len]) | omega | (simp [*]; done))) | (refine And.intro ?_ ?_) | (intro h; first | (exact Bool.noConfusion h) | ((simp only [decide_eq_true_eq, decide_eq_false_iff_not, beq_iff_eq, bne_iff_ne, ne_eq, beq_eq_false_iff_ne, bne_eq_false_iff_eq, Bool.not_eq_true', Bool.not_eq_false', Bool.not_eq_true, Bool.not_eq_false, Int.not_le, Int.not_lt, Bool.and_eq_true, Bool.or_eq_true, Bool.or_eq_false_iff, Bool.and_eq_false_iff] at h); (try (first | (exact Bool.noConfusion h) | (exact (h trivial).elim)))) | skip) | ((with_reducible refine (?_ : chk _ _ = true)); kernel_rfl) | ((with_reducible refine (?_ : (_ : IntKind) = _)); (with_reducible rfl)) | ((with_reducible refine (?_ : eqC (C.pvw _ _ _) (C.pvw _ _ _))); exact rfl) | ((with_reducible refine (?_ : eqC (C.pv (Value.int IntKind.u64 _)) _)); exact rfl) | ((with_reducible refine (?_ : eqC (C.pv (Value.string _)) _)); exact rfl) | exact trivial)
  · symm
    rw [Bool.or_eq_true]
    exact .inl (by rw [decide_eq_true_eq]; omega)
  · rw [wrap_small (by omega) (by omega), Bool.eq_iff_iff]
    simp only [Bool.or_eq_true, decide_eq_true_eq]
    omega

theorem rcS_eqv {D : Int} : ∀ (k : Nat) (f : T3) (m : T4), IG D f → (rcS D k f m).2.2 = true → Eqv f (rcS D k f m).1
  | 0, f, m, G, _ => Eqv.rfl' f
  | k + 1, f, m, G, hk => by
    simp only [rcS] at hk ⊢
    by_cases h1 : cyc (rt D) f = true
    · rw [if_pos h1]
      exact Eqv.rfl' f
    · rw [if_neg h1] at hk ⊢
      by_cases h2 : nfG D f = true
      · rw [if_pos h2] at hk ⊢
        by_cases h3 : numT (mulT m (cmM (rt D) f)) = true
        · rw [if_pos h3] at hk ⊢
          exact (Eqv.cnx (cdG_RD G.g).1 G.d).trans (rcS_eqv k _ _ (nf_IG G h2) hk)
        · rw [if_neg h3] at hk; cases hk
      · rw [if_neg h2] at hk; cases hk
theorem rcT_eqv {f : T3} (h : (rcT f).2.2 = true) : Eqv f (rcT f).1 := by
  unfold rcT at h ⊢
  by_cases hg : cgG f = true
  · rw [if_pos hg] at h ⊢
    exact rcS_eqv _ _ _ (IG_of hg) h
  · rw [if_neg hg] at h; cases h
/-- What the cycle's length is. -/
theorem cyc_runs {D : Int} {f : T3} (E : RE D f) (h : (rcT f).2.2 = true) : (cyT (rcT f).1).length = cnR f (riP f) := by
  have C := rcT_CG h
  have Q := rcT_eqv h
  have P := E.per
  generalize (rcT f).1 = g at *
  have hD : dsF g = D := by
    have a := Q.dis E.d
    have b := C.g.d
    unfold dis at a b
    omega
  rw [hD] at C
  rw [cyT, cyO_len, hD]
  obtain ⟨p1, _, p3, p4⟩ := cyP_spec C.g C.c
  exact (runs_cycle E.rd E.d2 E.d E.s C.c Q P.p1 P.per P.min p1 p3 p4).symm

/-- At the head of the law's loop. -/
structure LwI (f : T3) (i : Int) (n : Int) (g : T3) : Prop where
  i0 : 0 ≤ i
  i1 : i ≤ riP f
  n : n = cnR f i.toNat
  g : g = Rk f i.toNat
theorem cnR_le (f : T3) : ∀ k, cnR f k ≤ k
  | 0 => Nat.le_refl _
  | k + 1 => by
    have := cnR_le f k
    have : tr3 (Rk f k) ≤ 1 := by unfold tr3; split <;> omega
    rw [cnR]; omega
/-- What a round needs to know. -/
structure LwR (D : Int) (f : T3) (i : Int) (n : Int) (g : T3) : Prop where
  e : RE D g
  j1 : i.toNat < (wl f (riP f)).length
  j2 : ((i + 1).tmod (riP f)).toNat < (wl f (riP f)).length
  x : (wd (wl f (riP f))).extract i.toNat (i + 1).toNat = lw (lt3 g)
  t : (wl f (riP f))[i.toNat]'j1 = lt3 g
  u : (wl f (riP f))[((i + 1).tmod (riP f)).toNat]'j2 = lt3 (Rv g)
  h : Rv g = f → i + 1 = riP f
  s0 : lt3 g = lt3 (Rv g) → LwI f (i + 1) n (Rv g)
  s1 : lt3 g ≠ lt3 (Rv g) → LwI f (i + 1) (n + 1) (Rv g)
theorem LwI.round {D i n : Int} {f g : T3} (E : RE D f) (I : LwI f i n g) (h : i < riP f) : LwR D f i n g := by
  have P := E.per
  have i0 := I.i0
  have hg := I.g
  have hl := wl_len f (riP f)
  have hR : Rv g = Rk f (i.toNat + 1) := by rw [hg]; rfl
  have j1 : i.toNat < (wl f (riP f)).length := by omega
  have ht : (wl f (riP f))[i.toNat]'j1 = lt3 g := by rw [wl_get, hg]
  have hi1 : (i + 1).toNat = i.toNat + 1 := by omega
  have hm : ((i + 1).tmod (riP f)).toNat = if i + 1 = riP f then 0 else i.toNat + 1 := by
    rw [tmod_nonneg' (by omega)]
    split
    · rename_i e
      rw [e, Int.emod_self]; rfl
    · rw [Int.emod_eq_of_lt (by omega) (by omega)]; omega
  have j2 : ((i + 1).tmod (riP f)).toNat < (wl f (riP f)).length := by
    rw [hm]; split <;> omega
  have hu : (wl f (riP f))[((i + 1).tmod (riP f)).toNat]'j2 = lt3 (Rv g) := by
    rw [wl_get, hR, hm]
    split
    · rename_i e
      have e2 : i.toNat + 1 = riP f := by omega
      rw [e2, P.per]; rfl
    · rfl
  have hn : ∀ b : Nat, tr3 g = b → LwI f (i + 1) (n + b) (Rv g) := fun b hb => by
    refine ⟨by omega, by omega, ?_, by rw [hi1, hR]⟩
    rw [hi1, cnR, ← hg, hb, I.n]
    omega
  refine ⟨by rw [hg]; exact E.at _, j1, j2, ?_, ht, hu, fun e => ?_, fun e => ?_, fun e => ?_⟩
  · rw [hi1, wd_ext _ j1, ht]
  · refine Decidable.byContradiction fun hne => ?_
    rw [hR] at e
    exact P.min (i.toNat + 1) (by omega) (by omega) e
  · have := hn 0 (by unfold tr3; rw [if_pos e])
    simpa using this
  · have := hn 1 (by unfold tr3; rw [if_neg e])
    simpa using this

theorem sidx_at' {L : List Bool} {j : Int} {b : Bool} {k : UInt8 → Prop} (h0 : 0 ≤ j) (h1 : ∃ h : j.toNat < L.length, L[j.toNat]'h = b) (hk : k (ltr b)) : ∃ u : UInt8, (0 ≤ j ∧ (wd L)[j.toNat]? = some u) ∧ k u := by
  obtain ⟨h, rfl⟩ := h1
  exact sidx_at h0 h hk
theorem rv_core (v v' : Value) (l l' : List Int) (a b c : Int)
    (hc : AFun Try.prog 4 [] [By v l, By v' l'] (Bo false) [] [])
    (d1 : AFun Try.prog 5 [] [By v l] (Fo a b c) [] []) : AFun Try.prog 3 [] [By v l, By v' l'] (Bo true) [] [] := by
  have k1 := impl_RiverWord a b c
  have k2 := spec_RiverWord a b c
  have k3 := impl_CycleLength a b c
  cases hg : reB (a, b, c) with
  | false =>
    rw [hg] at k1 k2
    refine afun_intro fn3 rfl rfl (by repeat' (first | exact trivial | (simp; done) | refine ⟨?_, ?_⟩)) ?_
    unfold ac3
    repeat' (first | ((with_reducible refine (?_ : (_ : Bool) = _)); (with_reducible rfl)) | ((with_reducible refine (?_ : (_ : Nat × Nat) = _)); (with_reducible rfl)) | (with_reducible refine leafRI ?_) | (with_reducible refine leafRB ?_) | (with_reducible refine leafI ?_) | (with_reducible refine leafB ?_) | ((with_reducible refine (?_ : (_ : Int) = _)); (with_reducible rfl)) | ((with_reducible refine (?_ : (_ : List (List Value)) = _)); (with_reducible rfl)) | ((with_reducible refine (?_ : (_ : Int) ≠ 0)); (first | assumption | omega | (simp; done) | (simp only [ints_len] at *; omega) | (simp; omega))) | ((with_reducible refine (?_ : (_ : Int) ≤ _)); (first | assumption | omega | (simp; done) | (simp only [ints_len] at *; omega) | (simp; omega))) | ((with_reducible refine (?_ : (_ : Int) < _)); (first | assumption | omega | (simp; done) | (simp only [ints_len] at *; omega) | (simp; omega))) | ((with_reducible refine (?_ : (_ : Nat) ≤ _)); (first | omega | (simp only [List.length_cons, List.length_nil]; omega) | (simp [ints]; done) | (simp; omega))) | ((with_reducible refine (?_ : (_ : Nat) < _)); (first | omega | (simp only [List.length_cons, List.length_nil]; omega) | (simp [ints]; done) | (simp; omega))) | ((with_reducible refine (?_ : (_ : Nat) = _)); (first | (with_reducible rfl) | (simp; done) | (simp only [fr_len]) | (simp only [ints_len]) | omega | (simp [*]; done))) | (refine And.intro ?_ ?_) | (intro h; first | (exact Bool.noConfusion h) | ((simp only [decide_eq_true_eq, decide_eq_false_iff_not, beq_iff_eq, bne_iff_ne, ne_eq, beq_eq_false_iff_ne, bne_eq_false_iff_eq, Bool.not_eq_true', Bool.not_eq_false', Bool.not_eq_true, Bool.not_eq_false, Int.not_le, Int.not_lt, Bool.and_eq_true, Bool.or_eq_true, Bool.or_eq_false_iff, Bool.and_eq_false_iff] at h); (try (exact absurd trivial h))) | skip) | ((refine (?_ : ACall _ _ _ _ _ _ _)); first | ((apply acall (hc)); (focus ((repeat' (first | exact rfl | (refine And.intro ?_ ?_) | (simp only [ints_len]; done))); done))) | ((apply acall (d1)); (focus ((repeat' (first | exact rfl | (refine And.intro ?_ ?_) | (simp only [ints_len]; done))); done))) | ((apply acall (k1)); (focus ((repeat' (first | exact rfl | (refine And.intro ?_ ?_) | (simp only [ints_len]; done))); done))) | ((apply acall (k2)); (focus ((repeat' (first | exact rfl | (refine And.intro ?_ ?_) | (simp only [ints_len]; done))); done)))) | ((with_reducible refine (?_ : chk _ _ = true)); kernel_rfl) | ((with_reducible refine (?_ : (_ : IntKind) = _)); (with_reducible rfl)) | ((with_reducible refine (?_ : eqC (C.pvw _ _ _) (C.pvw _ _ _))); exact rfl) | ((with_reducible refine (?_ : eqC (C.pv (Value.int IntKind.u64 _)) _)); exact rfl) | ((with_reducible refine (?_ : eqC (C.pv (Value.string _)) _)); exact rfl) | exact trivial)
  | true =>
    have E := RE_of hg
    have e : rwB (a, b, c) = wd (wl (a, b, c) (riP (a, b, c))) := by unfold rwB; rw [hg]; rfl
    rw [hg, e] at k1 k2
    have k4 := impl_DiscriminantR _ a b c E
    have P := E.per
    have p1 := P.p1
    have p2 := P.p2
    have hcr := fun h => cyc_runs E h
    have hl := wl_len (a, b, c) (riP (a, b, c))
    have hz := wd_size (wl (a, b, c) (riP (a, b, c)))
    rw [hl] at hz
    refine afun_intro fn3 rfl rfl (by repeat' (first | exact trivial | (simp; done) | refine ⟨?_, ?_⟩)) ?_
    unfold ac3
    repeat' (first | ((with_reducible refine (?_ : (_ : Bool) = _)); (with_reducible rfl)) | ((with_reducible refine (?_ : (_ : Nat × Nat) = _)); (with_reducible rfl)) | (with_reducible refine leafRI ?_) | (with_reducible refine leafRB ?_) | (with_reducible refine leafI ?_) | (with_reducible refine leafB ?_) | ((with_reducible refine (?_ : (_ : Int) = _)); (with_reducible rfl)) | ((with_reducible refine (?_ : (_ : List (List Value)) = _)); (with_reducible rfl)) | ((with_reducible refine (?_ : (_ : Int) ≠ 0)); (first | assumption | omega | (simp; done) | (simp only [ints_len] at *; omega) | (simp; omega))) | ((with_reducible refine (?_ : (_ : Int) ≤ _)); (first | assumption | omega | (simp; done) | (simp only [ints_len] at *; omega) | (simp; omega))) | ((with_reducible refine (?_ : (_ : Int) < _)); (first | assumption | omega | (simp; done) | (simp only [ints_len] at *; omega) | (simp; omega))) | ((with_reducible refine (?_ : (_ : Nat) ≤ _)); (first | omega | (simp only [List.length_cons, List.length_nil]; omega) | (simp [ints]; done) | (simp; omega))) | ((with_reducible refine (?_ : (_ : Nat) < _)); (first | omega | (simp only [List.length_cons, List.length_nil]; omega) | (simp [ints]; done) | (simp; omega))) | ((with_reducible refine (?_ : (_ : Nat) = _)); (first | (with_reducible rfl) | (simp; done) | (simp only [fr_len]) | (simp only [ints_len]) | omega | (simp [*]; done))) | (refine And.intro ?_ ?_) | (intro h; first | (exact Bool.noConfusion h) | ((simp only [decide_eq_true_eq, decide_eq_false_iff_not, beq_iff_eq, bne_iff_ne, ne_eq, beq_eq_false_iff_ne, bne_eq_false_iff_eq, Bool.not_eq_true', Bool.not_eq_false', Bool.not_eq_true, Bool.not_eq_false, Int.not_le, Int.not_lt, Bool.and_eq_true, Bool.or_eq_true, Bool.or_eq_false_iff, Bool.and_eq_false_iff] at h); (try (exact absurd trivial h))) | skip) | ((refine (?_ : ACall _ _ _ _ _ _ _)); first | ((apply acall (hc)); (focus ((repeat' (first | exact rfl | (refine And.intro ?_ ?_) | (simp only [ints_len]; done))); done))) | ((apply acall (d1)); (focus ((repeat' (first | exact rfl | (refine And.intro ?_ ?_) | (simp only [ints_len]; done))); done))) | ((apply acall (k1)); (focus ((repeat' (first | exact rfl | (refine And.intro ?_ ?_) | (simp only [ints_len]; done))); done))) | ((apply acall (k2)); (focus ((repeat' (first | exact rfl | (refine And.intro ?_ ?_) | (simp only [ints_len]; done))); done)))) | ((with_reducible refine (?_ : chk _ _ = true)); kernel_rfl) | ((with_reducible refine (?_ : (_ : IntKind) = _)); (with_reducible rfl)) | ((with_reducible refine (?_ : eqC (C.pvw _ _ _) (C.pvw _ _ _))); exact rfl) | ((with_reducible refine (?_ : eqC (C.pv (Value.int IntKind.u64 _)) _)); exact rfl) | ((with_reducible refine (?_ : eqC (C.pv (Value.string _)) _)); exact rfl) | exact trivial)
    refine loop_rule (σ := Int × Int × (Int × Int × Int)) (fun s => [(11, I s.1), (12, I s.2.1)]) (fun s => [((5, 0), .bx [cI a, cI b, cI c]), ((10, 0), .bx [cI s.2.2.1, cI s.2.2.2.1, cI s.2.2.2.2])]) (fun s => LwI (a, b, c) s.2.1 s.1 (s.2.2.1, s.2.2.2.1, s.2.2.2.2)) (fun s => (riP (a, b, c) - s.2.1).toNat) ((0, 0, (a, b, c))) ?_ (by repeat' (first | exact trivial | exact rfl | (refine And.intro ?_ ?_))) (by repeat' (first | exact trivial | exact rfl | (refine And.intro ?_ ?_))) (fun s => ⟨rfl, rfl⟩) (fun s i h => by first | exact absurd h (Nat.not_lt_zero i) | (cases i with | zero => rfl | succ i => exact absurd (Nat.lt_of_succ_lt_succ h) (Nat.not_lt_zero i))) ?_
    · exact ⟨Int.le_refl _, by dsimp only; omega, rfl, rfl⟩
    rintro ⟨n, i, ⟨x, y, z⟩⟩ I
    dsimp only at I ⊢
    have i0 := I.i0
    have i1 := I.i1
    have w1 : wrap64 (i + 1) = i + 1 := wrap_small (by omega) (by omega)
    by_cases hi : i < riP (a, b, c)
    · obtain ⟨e1, j1, j2, ex, et, eu, eh, s0, s1⟩ := I.round E hi
      have h3 := impl_RiverStep _ x y z e1
      rw [← ex, ← w1] at h3
      have hn : wrap64 (n + 1) = n + 1 := by
        have := cnR_le (a, b, c) i.toNat
        have := I.n
        exact wrap_small (by omega) (by omega)
      have m1 : ∃ h : i.toNat < (wl (a, b, c) (riP (a, b, c))).length, (wl (a, b, c) (riP (a, b, c)))[i.toNat]'h = lt3 (x, y, z) := ⟨j1, et⟩
      have m2 : ∃ h : ((wrap64 (i + 1)).tmod ((wd (wl (a, b, c) (riP (a, b, c)))).size : Int)).toNat < (wl (a, b, c) (riP (a, b, c))).length, (wl (a, b, c) (riP (a, b, c)))[((wrap64 (i + 1)).tmod ((wd (wl (a, b, c) (riP (a, b, c)))).size : Int)).toNat]'h = lt3 (Rv (x, y, z)) := by
        rw [w1, hz]; exact ⟨j2, eu⟩
      have m0 : 0 ≤ (wrap64 (i + 1)).tmod ((wd (wl (a, b, c) (riP (a, b, c)))).size : Int) := by
        rw [w1, hz, tmod_nonneg' (by omega)]
        exact Int.emod_nonneg _ (by omega)
      have eh2 : ∀ (p1 : (Rv (x, y, z)).1 = a) (p2 : (Rv (x, y, z)).2.1 = b) (p3 : (Rv (x, y, z)).2.2 = c), ¬ wrap64 (i + 1) < ((wd (wl (a, b, c) (riP (a, b, c)))).size : Int) := fun p1 p2 p3 => by
        have := eh (by rw [← p1, ← p2, ← p3])
        rw [w1, hz]
        omega
      clear eh et eu e1 I E P hcr k1 k2 k3 k4 hc d1 ex e hg
      repeat' (first | ((with_reducible refine (?_ : (_ : Bool) = _)); (with_reducible rfl)) | ((with_reducible refine (?_ : (_ : Nat × Nat) = _)); (with_reducible rfl)) | (with_reducible refine leafRI ?_) | (with_reducible refine leafRB ?_) | (with_reducible refine leafI ?_) | (with_reducible refine leafB ?_) | ((with_reducible refine (?_ : (_ : Int) = _)); (with_reducible rfl)) | ((with_reducible refine (?_ : (_ : List (List Value)) = _)); (with_reducible rfl)) | ((with_reducible refine (?_ : (_ : Int) ≠ 0)); (first | assumption | omega | (simp; done) | (simp only [ints_len] at *; omega) | (simp; omega))) | ((with_reducible refine (?_ : (_ : Int) ≤ _)); (first | assumption | omega | (simp; done) | (simp only [ints_len] at *; omega) | (simp; omega))) | ((with_reducible refine (?_ : (_ : Int) < _)); (first | assumption | omega | (simp; done) | (simp only [ints_len] at *; omega) | (simp; omega))) | ((with_reducible refine (?_ : (_ : Nat) ≤ _)); (first | omega | (simp only [List.length_cons, List.length_nil]; omega) | (simp [ints]; done) | (simp; omega))) | ((with_reducible refine (?_ : (_ : Nat) < _)); (first | omega | (simp only [List.length_cons, List.length_nil]; omega) | (simp [ints]; done) | (simp; omega))) | ((with_reducible refine (?_ : (_ : Nat) = _)); (first | (with_reducible rfl) | (simp; done) | (simp only [fr_len]) | (simp only [ints_len]) | omega | (simp [*]; done))) | (refine And.intro ?_ ?_) | (intro h; first | (exact Bool.noConfusion h) | ((simp only [decide_eq_true_eq, decide_eq_false_iff_not, beq_iff_eq, bne_iff_ne, ne_eq, beq_eq_false_iff_ne, bne_eq_false_iff_eq, Bool.not_eq_true', Bool.not_eq_false', Bool.not_eq_true, Bool.not_eq_false, Int.not_le, Int.not_lt, Bool.and_eq_true, Bool.or_eq_true, Bool.or_eq_false_iff, Bool.and_eq_false_iff] at h); (try (first | (exact absurd trivial h) | (exfalso; omega)))) | skip) | ((refine (?_ : ACall _ _ _ _ _ _ _)); first | ((apply acall (h3)); (focus ((repeat' (first | exact rfl | (refine And.intro ?_ ?_) | (simp only [ints_len]; done))); done)))) | ((with_reducible refine (?_ : chk _ _ = true)); kernel_rfl) | ((with_reducible refine (?_ : (_ : IntKind) = _)); (with_reducible rfl)) | ((with_reducible refine (?_ : eqC (C.pvw _ _ _) (C.pvw _ _ _))); exact rfl) | ((with_reducible refine (?_ : eqC (C.pv (Value.int IntKind.u64 _)) _)); exact rfl) | ((with_reducible refine (?_ : eqC (C.pv (Value.string _)) _)); exact rfl) | exact trivial)
      all_goals first | (refine sidx_at' i0 m1 ?_) | skip
      repeat' (first | ((with_reducible refine (?_ : (_ : Bool) = _)); (with_reducible rfl)) | ((with_reducible refine (?_ : (_ : Nat × Nat) = _)); (with_reducible rfl)) | (with_reducible refine leafRI ?_) | (with_reducible refine leafRB ?_) | (with_reducible refine leafI ?_) | (with_reducible refine leafB ?_) | ((with_reducible refine (?_ : (_ : Int) = _)); (with_reducible rfl)) | ((with_reducible refine (?_ : (_ : List (List Value)) = _)); (with_reducible rfl)) | ((with_reducible refine (?_ : (_ : Int) ≠ 0)); (first | assumption | omega | (simp; done) | (simp only [ints_len] at *; omega) | (simp; omega))) | ((with_reducible refine (?_ : (_ : Int) ≤ _)); (first | assumption | omega | (simp; done) | (simp only [ints_len] at *; omega) | (simp; omega))) | ((with_reducible refine (?_ : (_ : Int) < _)); (first | assumption | omega | (simp; done) | (simp only [ints_len] at *; omega) | (simp; omega))) | ((with_reducible refine (?_ : (_ : Nat) ≤ _)); (first | omega | (simp only [List.length_cons, List.length_nil]; omega) | (simp [ints]; done) | (simp; omega))) | ((with_reducible refine (?_ : (_ : Nat) < _)); (first | omega | (simp only [List.length_cons, List.length_nil]; omega) | (simp [ints]; done) | (simp; omega))) | ((with_reducible refine (?_ : (_ : Nat) = _)); (first | (with_reducible rfl) | (simp; done) | (simp only [fr_len]) | (simp only [ints_len]) | omega | (simp [*]; done))) | (refine And.intro ?_ ?_) | (intro h; first | (exact Bool.noConfusion h) | ((simp only [decide_eq_true_eq, decide_eq_false_iff_not, beq_iff_eq, bne_iff_ne, ne_eq, beq_eq_false_iff_ne, bne_eq_false_iff_eq, Bool.not_eq_true', Bool.not_eq_false', Bool.not_eq_true, Bool.not_eq_false, Int.not_le, Int.not_lt, Bool.and_eq_true, Bool.or_eq_true, Bool.or_eq_false_iff, Bool.and_eq_false_iff] at h); (try (first | (exact absurd trivial h) | (exfalso; omega)))) | skip) | ((with_reducible refine (?_ : chk _ _ = true)); kernel_rfl) | ((with_reducible refine (?_ : (_ : IntKind) = _)); (with_reducible rfl)) | ((with_reducible refine (?_ : eqC (C.pvw _ _ _) (C.pvw _ _ _))); exact rfl) | ((with_reducible refine (?_ : eqC (C.pv (Value.int IntKind.u64 _)) _)); exact rfl) | ((with_reducible refine (?_ : eqC (C.pv (Value.string _)) _)); exact rfl) | exact trivial)
      all_goals first | (refine sidx_at' m0 m2 ?_) | skip
      repeat' (first | ((with_reducible refine (?_ : (_ : Bool) = _)); (with_reducible rfl)) | ((with_reducible refine (?_ : (_ : Nat × Nat) = _)); (with_reducible rfl)) | (with_reducible refine leafRI ?_) | (with_reducible refine leafRB ?_) | (with_reducible refine leafI ?_) | (with_reducible refine leafB ?_) | ((with_reducible refine (?_ : (_ : Int) = _)); (with_reducible rfl)) | ((with_reducible refine (?_ : (_ : List (List Value)) = _)); (with_reducible rfl)) | ((with_reducible refine (?_ : (_ : Int) ≠ 0)); (first | assumption | omega | (simp; done) | (simp only [ints_len] at *; omega) | (simp; omega))) | ((with_reducible refine (?_ : (_ : Int) ≤ _)); (first | assumption | omega | (simp; done) | (simp only [ints_len] at *; omega) | (simp; omega))) | ((with_reducible refine (?_ : (_ : Int) < _)); (first | assumption | omega | (simp; done) | (simp only [ints_len] at *; omega) | (simp; omega))) | ((with_reducible refine (?_ : (_ : Nat) ≤ _)); (first | omega | (simp only [List.length_cons, List.length_nil]; omega) | (simp [ints]; done) | (simp; omega))) | ((with_reducible refine (?_ : (_ : Nat) < _)); (first | omega | (simp only [List.length_cons, List.length_nil]; omega) | (simp [ints]; done) | (simp; omega))) | ((with_reducible refine (?_ : (_ : Nat) = _)); (first | (with_reducible rfl) | (simp; done) | (simp only [fr_len]) | (simp only [ints_len]) | omega | (simp [*]; done))) | (refine And.intro ?_ ?_) | (intro h; first | (exact Bool.noConfusion h) | ((simp only [decide_eq_true_eq, decide_eq_false_iff_not, beq_iff_eq, bne_iff_ne, ne_eq, beq_eq_false_iff_ne, bne_eq_false_iff_eq, Bool.not_eq_true', Bool.not_eq_false', Bool.not_eq_true, Bool.not_eq_false, Int.not_le, Int.not_lt, Bool.and_eq_true, Bool.or_eq_true, Bool.or_eq_false_iff, Bool.and_eq_false_iff] at h); (try (first | (exact absurd trivial h) | (exfalso; omega)))) | skip) | ((with_reducible refine (?_ : chk _ _ = true)); kernel_rfl) | ((with_reducible refine (?_ : (_ : IntKind) = _)); (with_reducible rfl)) | ((with_reducible refine (?_ : eqC (C.pvw _ _ _) (C.pvw _ _ _))); exact rfl) | ((with_reducible refine (?_ : eqC (C.pv (Value.int IntKind.u64 _)) _)); exact rfl) | ((with_reducible refine (?_ : eqC (C.pv (Value.string _)) _)); exact rfl) | exact trivial)
      · refine ⟨(_, _, (_, _, _)), ?_, ?_, none, And.intro rfl (And.intro (by repeat' (first | exact trivial | exact rfl | (refine And.intro ?_ ?_))) (by repeat' (first | exact trivial | exact rfl | (refine And.intro ?_ ?_))))⟩
        · have h' : lt3 (x, y, z) ≠ lt3 (Rv (x, y, z)) := (ltr_ne _ _).1 h
          have hh := s1 h'
          rw [← hn, ← w1] at hh
          exact hh
        · dsimp only
          rw [w1]; omega
      · refine ⟨(_, _, (_, _, _)), ?_, ?_, none, And.intro rfl (And.intro (by repeat' (first | exact trivial | exact rfl | (refine And.intro ?_ ?_))) (by repeat' (first | exact trivial | exact rfl | (refine And.intro ?_ ?_))))⟩
        · have h' : lt3 (x, y, z) = lt3 (Rv (x, y, z)) := Decidable.byContradiction fun hne => (ltr_ne _ _).2 hne h
          have hh := s0 h'
          rw [← w1] at hh
          exact hh
        · dsimp only
          rw [w1]; omega
      · refine ⟨(_, _, (_, _, _)), ?_, ?_, none, And.intro rfl (And.intro (by repeat' (first | exact trivial | exact rfl | (refine And.intro ?_ ?_))) (by repeat' (first | exact trivial | exact rfl | (refine And.intro ?_ ?_))))⟩
        · have h' : lt3 (x, y, z) ≠ lt3 (Rv (x, y, z)) := (ltr_ne _ _).1 h
          have hh := s1 h'
          rw [← hn, ← w1] at hh
          exact hh
        · dsimp only
          rw [w1]; omega
      · refine ⟨(_, _, (_, _, _)), ?_, ?_, none, And.intro rfl (And.intro (by repeat' (first | exact trivial | exact rfl | (refine And.intro ?_ ?_))) (by repeat' (first | exact trivial | exact rfl | (refine And.intro ?_ ?_))))⟩
        · have h' : lt3 (x, y, z) = lt3 (Rv (x, y, z)) := Decidable.byContradiction fun hne => (ltr_ne _ _).2 hne h
          have hh := s0 h'
          rw [← w1] at hh
          exact hh
        · dsimp only
          rw [w1]; omega
    have hi2 : i = riP (a, b, c) := by omega
    have hn2 : n = cnR (a, b, c) (riP (a, b, c)) := by rw [I.n, hi2]; rfl
    have hg2 : (x, y, z) = (a, b, c) := by rw [I.g, hi2]; exact P.per
    simp only [Prod.mk.injEq] at hg2
    obtain ⟨rfl, rfl, rfl⟩ := hg2
    cases hr : (rcT (x, y, z)).2.2 with
    | false =>
      rw [hr] at k3
      clear I P hcr k1 k2 hc d1 e hg i0 hn2 E
      repeat' (first | ((with_reducible refine (?_ : (_ : Bool) = _)); (with_reducible rfl)) | ((with_reducible refine (?_ : (_ : Nat × Nat) = _)); (with_reducible rfl)) | (with_reducible refine leafRI ?_) | (with_reducible refine leafRB ?_) | (with_reducible refine leafI ?_) | (with_reducible refine leafB ?_) | ((with_reducible refine (?_ : (_ : Int) = _)); (with_reducible rfl)) | ((with_reducible refine (?_ : (_ : List (List Value)) = _)); (with_reducible rfl)) | ((with_reducible refine (?_ : (_ : Int) ≠ 0)); (first | assumption | omega | (simp; done) | (simp only [ints_len] at *; omega) | (simp; omega))) | ((with_reducible refine (?_ : (_ : Int) ≤ _)); (first | assumption | omega | (simp; done) | (simp only [ints_len] at *; omega) | (simp; omega))) | ((with_reducible refine (?_ : (_ : Int) < _)); (first | assumption | omega | (simp; done) | (simp only [ints_len] at *; omega) | (simp; omega))) | ((with_reducible refine (?_ : (_ : Nat) ≤ _)); (first | omega | (simp only [List.length_cons, List.length_nil]; omega) | (simp [ints]; done) | (simp; omega))) | ((with_reducible refine (?_ : (_ : Nat) < _)); (first | omega | (simp only [List.length_cons, List.length_nil]; omega) | (simp [ints]; done) | (simp; omega))) | ((with_reducible refine (?_ : (_ : Nat) = _)); (first | (with_reducible rfl) | (simp; done) | (simp only [fr_len]) | (simp only [ints_len]) | omega | (simp [*]; done))) | (refine And.intro ?_ ?_) | (intro h; first | (exact Bool.noConfusion h) | ((simp only [decide_eq_true_eq, decide_eq_false_iff_not, beq_iff_eq, bne_iff_ne, ne_eq, beq_eq_false_iff_ne, bne_eq_false_iff_eq, Bool.not_eq_true', Bool.not_eq_false', Bool.not_eq_true, Bool.not_eq_false, Int.not_le, Int.not_lt, Bool.and_eq_true, Bool.or_eq_true, Bool.or_eq_false_iff, Bool.and_eq_false_iff] at h); (try (first | (exact absurd trivial h) | (exfalso; omega)))) | skip) | ((refine (?_ : ACall _ _ _ _ _ _ _)); first | ((apply acall (k4)); (focus ((repeat' (first | exact rfl | (refine And.intro ?_ ?_) | (simp only [ints_len]; done))); done))) | ((apply acall (k3)); (focus ((repeat' (first | exact rfl | (refine And.intro ?_ ?_) | (simp only [ints_len]; done))); done)))) | ((with_reducible refine (?_ : chk _ _ = true)); kernel_rfl) | ((with_reducible refine (?_ : (_ : IntKind) = _)); (with_reducible rfl)) | ((with_reducible refine (?_ : eqC (C.pvw _ _ _) (C.pvw _ _ _))); exact rfl) | ((with_reducible refine (?_ : eqC (C.pv (Value.int IntKind.u64 _)) _)); exact rfl) | ((with_reducible refine (?_ : eqC (C.pv (Value.string _)) _)); exact rfl) | exact trivial)
      all_goals first | (exact beq_self_eq_true _) | (exfalso; simp at h; done) | skip
    | true =>
      rw [hr, if_pos rfl, hcr hr, ← hn2] at k3
      clear I P hcr k1 k2 hc d1 e hg i0 hn2 E
      repeat' (first | ((with_reducible refine (?_ : (_ : Bool) = _)); (with_reducible rfl)) | ((with_reducible refine (?_ : (_ : Nat × Nat) = _)); (with_reducible rfl)) | (with_reducible refine leafRI ?_) | (with_reducible refine leafRB ?_) | (with_reducible refine leafI ?_) | (with_reducible refine leafB ?_) | ((with_reducible refine (?_ : (_ : Int) = _)); (with_reducible rfl)) | ((with_reducible refine (?_ : (_ : List (List Value)) = _)); (with_reducible rfl)) | ((with_reducible refine (?_ : (_ : Int) ≠ 0)); (first | assumption | omega | (simp; done) | (simp only [ints_len] at *; omega) | (simp; omega))) | ((with_reducible refine (?_ : (_ : Int) ≤ _)); (first | assumption | omega | (simp; done) | (simp only [ints_len] at *; omega) | (simp; omega))) | ((with_reducible refine (?_ : (_ : Int) < _)); (first | assumption | omega | (simp; done) | (simp only [ints_len] at *; omega) | (simp; omega))) | ((with_reducible refine (?_ : (_ : Nat) ≤ _)); (first | omega | (simp only [List.length_cons, List.length_nil]; omega) | (simp [ints]; done) | (simp; omega))) | ((with_reducible refine (?_ : (_ : Nat) < _)); (first | omega | (simp only [List.length_cons, List.length_nil]; omega) | (simp [ints]; done) | (simp; omega))) | ((with_reducible refine (?_ : (_ : Nat) = _)); (first | (with_reducible rfl) | (simp; done) | (simp only [fr_len]) | (simp only [ints_len]) | omega | (simp [*]; done))) | (refine And.intro ?_ ?_) | (intro h; first | (exact Bool.noConfusion h) | ((simp only [decide_eq_true_eq, decide_eq_false_iff_not, beq_iff_eq, bne_iff_ne, ne_eq, beq_eq_false_iff_ne, bne_eq_false_iff_eq, Bool.not_eq_true', Bool.not_eq_false', Bool.not_eq_true, Bool.not_eq_false, Int.not_le, Int.not_lt, Bool.and_eq_true, Bool.or_eq_true, Bool.or_eq_false_iff, Bool.and_eq_false_iff] at h); (try (first | (exact absurd trivial h) | (exfalso; omega)))) | skip) | ((refine (?_ : ACall _ _ _ _ _ _ _)); first | ((apply acall (k4)); (focus ((repeat' (first | exact rfl | (refine And.intro ?_ ?_) | (simp only [ints_len]; done))); done))) | ((apply acall (k3)); (focus ((repeat' (first | exact rfl | (refine And.intro ?_ ?_) | (simp only [ints_len]; done))); done)))) | ((with_reducible refine (?_ : chk _ _ = true)); kernel_rfl) | ((with_reducible refine (?_ : (_ : IntKind) = _)); (with_reducible rfl)) | ((with_reducible refine (?_ : eqC (C.pvw _ _ _) (C.pvw _ _ _))); exact rfl) | ((with_reducible refine (?_ : eqC (C.pv (Value.int IntKind.u64 _)) _)); exact rfl) | ((with_reducible refine (?_ : eqC (C.pv (Value.string _)) _)); exact rfl) | exact trivial)
      all_goals first | (exact beq_self_eq_true _) | (exfalso; simp at h; done) | skip

theorem claw_Rivers (v v' : Value) (l l' : List Int) (hl : l.length ≤ 9223372036854775807) (hb : ∀ n ∈ l, 0 ≤ n ∧ n ≤ 255) (hb' : ∀ n ∈ l', 0 ≤ n ∧ n ≤ 255) : AFun Try.prog 3 [] [By v l, By v' l'] (Bo true) [] [] := by
  have hc := laws_big v v' l l' hl
  by_cases hbig : 1048576 < l.length ∨ 1048576 - l.length < l'.length
  · rw [show (decide (1048576 < l.length) || decide (1048576 - l.length < l'.length)) = true by simp only [Bool.or_eq_true, decide_eq_true_eq]; omega] at hc
    refine afun_intro fn3 rfl rfl (by repeat' (first | exact trivial | (simp; done) | refine ⟨?_, ?_⟩)) ?_
    unfold ac3
    repeat' (first | ((with_reducible refine (?_ : (_ : Bool) = _)); (with_reducible rfl)) | ((with_reducible refine (?_ : (_ : Nat × Nat) = _)); (with_reducible rfl)) | (with_reducible refine leafRI ?_) | (with_reducible refine leafRB ?_) | (with_reducible refine leafI ?_) | (with_reducible refine leafB ?_) | ((with_reducible refine (?_ : (_ : Int) = _)); (with_reducible rfl)) | ((with_reducible refine (?_ : (_ : List (List Value)) = _)); (with_reducible rfl)) | ((with_reducible refine (?_ : (_ : Int) ≠ 0)); (first | assumption | omega | (simp; done) | (simp only [ints_len] at *; omega) | (simp; omega))) | ((with_reducible refine (?_ : (_ : Int) ≤ _)); (first | assumption | omega | (simp; done) | (simp only [ints_len] at *; omega) | (simp; omega))) | ((with_reducible refine (?_ : (_ : Int) < _)); (first | assumption | omega | (simp; done) | (simp only [ints_len] at *; omega) | (simp; omega))) | ((with_reducible refine (?_ : (_ : Nat) ≤ _)); (first | omega | (simp only [List.length_cons, List.length_nil]; omega) | (simp [ints]; done) | (simp; omega))) | ((with_reducible refine (?_ : (_ : Nat) < _)); (first | omega | (simp only [List.length_cons, List.length_nil]; omega) | (simp [ints]; done) | (simp; omega))) | ((with_reducible refine (?_ : (_ : Nat) = _)); (first | (with_reducible rfl) | (simp; done) | (simp only [fr_len]) | (simp only [ints_len]) | omega | (simp [*]; done))) | (refine And.intro ?_ ?_) | (intro h; first | (exact Bool.noConfusion h) | ((simp only [decide_eq_true_eq, decide_eq_false_iff_not, beq_iff_eq, bne_iff_ne, ne_eq, beq_eq_false_iff_ne, bne_eq_false_iff_eq, Bool.not_eq_true', Bool.not_eq_false', Bool.not_eq_true, Bool.not_eq_false, Int.not_le, Int.not_lt, Bool.and_eq_true, Bool.or_eq_true, Bool.or_eq_false_iff, Bool.and_eq_false_iff] at h); (try (first | (exact Bool.noConfusion h) | (exact (h trivial).elim)))) | skip) | ((refine (?_ : ACall _ _ _ _ _ _ _)); first | ((apply acall (hc)); (focus ((repeat' (first | exact rfl | (refine And.intro ?_ ?_) | (simp only [ints_len]; done))); done)))) | ((with_reducible refine (?_ : chk _ _ = true)); kernel_rfl) | ((with_reducible refine (?_ : (_ : IntKind) = _)); (with_reducible rfl)) | ((with_reducible refine (?_ : eqC (C.pvw _ _ _) (C.pvw _ _ _))); exact rfl) | ((with_reducible refine (?_ : eqC (C.pv (Value.int IntKind.u64 _)) _)); exact rfl) | ((with_reducible refine (?_ : eqC (C.pv (Value.string _)) _)); exact rfl) | exact trivial)
  rw [show (decide (1048576 < l.length) || decide (1048576 - l.length < l'.length)) = false by rw [Bool.or_eq_false_iff, decide_eq_false_iff_not, decide_eq_false_iff_not]; omega] at hc
  obtain ⟨a, b, c, d1⟩ := DrawRiverWord_ex v l ⟨by omega, hb⟩
  exact rv_core v v' l l' a b c hc d1

theorem law_Rivers (l : List Int) (k : List Int) (w : World) (v : Value) (hv : CameB w l v) (u : Value) (hu : CameB w k u) : Calls Try.prog 3 #[v, u] w fun e w' => e = .returned (.bool (true)) ∧ Below w.heap.size w w' := by
  exact law_of_afunA (claw_Rivers v u l k hv.len hv.byte hu.byte) w ⟨⟨rfl, hv.view⟩, ⟨rfl, hu.view⟩, trivial⟩

end Go.Proofs.Ytnlabjnjcfapiaa
