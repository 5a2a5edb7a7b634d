/- Several texts in one: HA, HB, HC, HD, HE, HF. -/
import Derived.Test.YtdgfnmkiabjfnaaH9
/-! Cycles of indefinite forms: the cycle, SameCycle. -/
namespace Go.Proofs.Ytdgfnmkiabjfnaa
open Go.RowKit
set_option linter.unusedSimpArgs false
set_option linter.unusedVariables false
set_option maxRecDepth 100000
set_option maxHeartbeats 2000000

/-- A cyclic form's period, its cycle. -/
noncomputable def cyP (D : Int) (f : T3) : Nat := Classical.epsilon fun p => 1 ≤ p ∧ p ≤ 2016 ∧ orb D (rt D) f p = f ∧ ∀ k, 1 ≤ k → k < p → orb D (rt D) f k ≠ f
theorem cyP_spec {D : Int} {f : T3} (G : IG D f) (hc : cyc (rt D) f = true) : 1 ≤ cyP D f ∧ cyP D f ≤ 2016 ∧ orb D (rt D) f (cyP D f) = f ∧ ∀ k, 1 ≤ k → k < cyP D f → orb D (rt D) f k ≠ f := by
  obtain ⟨R, hr, _⟩ := cdG_RD G.g
  exact Classical.epsilon_spec (p := fun p => 1 ≤ p ∧ p ≤ 2016 ∧ orb D (rt D) f p = f ∧ ∀ k, 1 ≤ k → k < p → orb D (rt D) f k ≠ f) (orb_per R hr G.d hc)
def cyO (D : Int) (f : T3) (k : Nat) : List T3 := (List.range k).map (orb D (rt D) f)
theorem cyO_len (D : Int) (f : T3) (k : Nat) : (cyO D f k).length = k := by simp [cyO]
theorem cyO_s (D : Int) (f : T3) (k : Nat) : cyO D f (k + 1) = cyO D f k ++ [orb D (rt D) f k] := by simp [cyO, List.range_succ]
theorem orb_IG {D : Int} {f : T3} (G : IG D f) (hc : cyc (rt D) f = true) (k : Nat) : IG D (orb D (rt D) f k) := by
  obtain ⟨R, hr, _⟩ := cdG_RD G.g
  obtain ⟨h1, h2⟩ := orb_ok R G.d hc k
  have h3 := cyc_c R h1 h2
  have h4 := cyc_iff.1 h2
  have r0 := R.p
  refine ⟨?_, ?_, ?_, h1, G.g⟩ <;> simp only [num, Bool.and_eq_true, decide_eq_true_eq] <;> omega
theorem cnx_num {D : Int} {f : T3} (G : IG D f) (hc : cyc (rt D) f = true) : IG D (cnx D (rt D) f) := orb_IG G hc 1

structure CG (D : Int) (f : T3) : Prop where
  g : IG D f
  c : cyc (rt D) f = true

/-- What holds at the head of the loop: k forms are in the list, g is next. -/
structure CyI (D : Int) (f : T3) (k : Nat) (R : List (List Value)) (g : T3) : Prop where
  k0 : 1 ≤ k
  k1 : k ≤ cyP D f
  r : R = fr (cyO D f k)
  o : g = orb D (rt D) f k
theorem CyI.step {D : Int} {f : T3} {k : Nat} {R : List (List Value)} {g : T3} (G : CG D f) (I : CyI D f k R g) (h : g ≠ f) : CyI D f (k + 1) (R ++ [[.int .i64 g.1, .int .i64 g.2.1, .int .i64 g.2.2]]) (cnx D (rt D) g) ∧ k + 1 ≤ 2016 := by
  have hp := cyP_spec G.g G.c
  have hk : k ≠ cyP D f := fun e => h (by rw [I.o, e]; exact hp.2.2.1)
  have := I.k1
  refine ⟨⟨by omega, by omega, ?_, ?_⟩, by omega⟩
  · rw [cyO_s, fr_app, I.r, I.o]; rfl
  · rw [I.o]; rfl
theorem CyI.stop {D : Int} {f : T3} {k : Nat} {R : List (List Value)} {g : T3} (G : CG D f) (I : CyI D f k R g) (h : g = f) : k = cyP D f ∧ R = fr (cyO D f (cyP D f)) := by
  have hp := cyP_spec G.g G.c
  have hk : k = cyP D f := by
    rcases Nat.lt_or_ge k (cyP D f) with h1 | h1
    · exact absurd (I.o.symm.trans h) (hp.2.2.2 k I.k0 h1)
    · have := I.k1; omega
  exact ⟨hk, by rw [I.r, hk]⟩
theorem CyI.len {D : Int} {f : T3} {k : Nat} {R : List (List Value)} {g : T3} (G : CG D f) (I : CyI D f k R g) : R.length = k ∧ k ≤ 2016 ∧ IG D g ∧ cyc (rt D) g = true := by
  have hp := cyP_spec G.g G.c
  have := I.k1
  obtain ⟨R', hr, _⟩ := cdG_RD G.g.g
  rw [I.r, fr_len, cyO_len, I.o]
  exact ⟨rfl, by omega, orb_IG G.g G.c k, (orb_ok R' G.g.d G.c k).2⟩
theorem CyI.first {D : Int} {f : T3} (G : CG D f) : CyI D f 1 [[.int .i64 f.1, .int .i64 f.2.1, .int .i64 f.2.2]] (cnx D (rt D) f) := ⟨Nat.le_refl _, (cyP_spec G.g G.c).1, rfl, rfl⟩

theorem spec_cyCycle (D a b c : Int) (G : CG D (a, b, c)) : AFun Try.prog 58 [] [Fo a b c] (.c (.slc (0, 0) (cyP D (a, b, c)))) [] [FF (cyO D (a, b, c) (cyP D (a, b, c)))] := by
  have hp := (cyP_spec G.g G.c).2.1
  have h1 := spec_cyMove D a b c G.g
  obtain ⟨e1, e2, e3⟩ := act_cnx G.g
  have f1 := CyI.first G
  refine afun_intro fn58 rfl rfl (by repeat' (first | exact trivial | (simp; done) | refine ⟨?_, ?_⟩)) ?_
  unfold ac58
  repeat' (first | ((with_reducible refine (?_ : (_ : Bool) = _)); (with_reducible rfl)) | ((with_reducible refine (?_ : (_ : Nat × Nat) = _)); (with_reducible rfl)) | (with_reducible refine leafRI ?_) | (with_reducible refine leafRB ?_) | (with_reducible refine leafI ?_) | (with_reducible refine leafB ?_) | ((with_reducible refine (?_ : (_ : Int) = _)); (with_reducible rfl)) | ((with_reducible refine (?_ : (_ : List (List Value)) = _)); (with_reducible rfl)) | ((with_reducible refine (?_ : (_ : Int) ≠ 0)); (first | assumption | omega | (simp; done) | (simp only [ints_len] at *; omega) | (simp; omega))) | ((with_reducible refine (?_ : (_ : Int) ≤ _)); (first | assumption | omega | (simp; done) | (simp only [ints_len] at *; omega) | (simp; omega))) | ((with_reducible refine (?_ : (_ : Int) < _)); (first | assumption | omega | (simp; done) | (simp only [ints_len] at *; omega) | (simp; omega))) | ((with_reducible refine (?_ : (_ : Nat) ≤ _)); (first | omega | (simp only [List.length_cons, List.length_nil]; omega) | (simp [ints]; done) | (simp; omega))) | ((with_reducible refine (?_ : (_ : Nat) < _)); (first | omega | (simp only [List.length_cons, List.length_nil]; omega) | (simp [ints]; done) | (simp; omega))) | ((with_reducible refine (?_ : (_ : Nat) = _)); (first | (with_reducible rfl) | (simp; done) | (simp only [fr_len]) | (simp only [ints_len]) | omega | (simp [*]; done))) | (refine And.intro ?_ ?_) | (intro h; first | (exact Bool.noConfusion h) | ((simp only [decide_eq_true_eq, decide_eq_false_iff_not, beq_iff_eq, bne_iff_ne, ne_eq, beq_eq_false_iff_ne, bne_eq_false_iff_eq, Bool.not_eq_true', Bool.not_eq_false', Bool.not_eq_true, Bool.not_eq_false, Int.not_le, Int.not_lt, Bool.and_eq_true, Bool.or_eq_true, Bool.or_eq_false_iff, Bool.and_eq_false_iff] at h); (try (first | (exact Bool.noConfusion h) | (exact (h trivial).elim)))) | skip) | ((refine (?_ : ACall _ _ _ _ _ _ _)); first | ((apply acall (h1)); (focus (repeat' (first | exact rfl | (refine And.intro ?_ ?_) | (simp only [ints_len]; done) | (simp; done) | omega)))) | ((apply acall (spec_foAct _ _ _ _ _ _ _)); (focus (repeat' (first | exact rfl | (refine And.intro ?_ ?_) | (simp only [ints_len]; done) | (simp; done) | omega))))) | ((with_reducible refine (?_ : chk _ _ = true)); kernel_rfl) | ((with_reducible refine (?_ : (_ : IntKind) = _)); (with_reducible rfl)) | ((with_reducible refine (?_ : eqC (C.pvw _ _ _) (C.pvw _ _ _))); exact rfl) | ((with_reducible refine (?_ : eqC (C.pv (Value.int IntKind.u64 _)) _)); exact rfl) | exact trivial)
  refine loop_rule (σ := Nat × List (List Value) × T3) (fun s => [(3, .c (.slc (6, 0) s.1)), (4, .c (.ptr (4, 0) 0))]) (fun s => [((1, 0), .bx (c3 (a, b, c))), ((2, 0), .fl 37 3 []), ((6, 0), .fl 37 3 s.2.1), ((4, 0), .bx (c3 s.2.2))]) (fun s => CyI D (a, b, c) s.1 s.2.1 s.2.2) (fun s => 2016 - s.1) ((1, _, (fv a b c 0 1, po a b c 0 1 (-1) (cme (rt D) (a, b, c)), fv a b c (-1) (cme (rt D) (a, b, c))))) ?_ (by repeat' (first | exact trivial | exact rfl | (refine And.intro ?_ ?_))) (by repeat' (first | exact trivial | exact rfl | (refine And.intro ?_ ?_))) (fun s => ⟨rfl, rfl⟩) (fun s i h => by first | exact absurd h (Nat.not_lt_zero i) | (cases i with | zero => rfl | succ i => exact absurd (Nat.lt_of_succ_lt_succ h) (Nat.not_lt_zero i))) ?_
  · dsimp only at e1 e2 e3 ⊢
    rw [e1, e2, e3]
    exact f1
  · rintro ⟨k, R, ⟨x, y, z⟩⟩ I
    dsimp only at I ⊢
    obtain ⟨l1, l2, l3, l4⟩ := I.len G
    have h2 := spec_cyMove D x y z l3
    have st := I.step G
    have sp := I.stop G
    obtain ⟨q1, q2, q3⟩ := act_cnx l3
    dsimp only at q1 q2 q3
    repeat' (first | ((with_reducible refine (?_ : (_ : Bool) = _)); (with_reducible rfl)) | ((with_reducible refine (?_ : (_ : Nat × Nat) = _)); (with_reducible rfl)) | (with_reducible refine leafRI ?_) | (with_reducible refine leafRB ?_) | (with_reducible refine leafI ?_) | (with_reducible refine leafB ?_) | ((with_reducible refine (?_ : (_ : Int) = _)); (with_reducible rfl)) | ((with_reducible refine (?_ : (_ : List (List Value)) = _)); (with_reducible rfl)) | ((with_reducible refine (?_ : (_ : Int) ≠ 0)); (first | assumption | omega | (simp; done) | (simp only [ints_len] at *; omega) | (simp; omega))) | ((with_reducible refine (?_ : (_ : Int) ≤ _)); (first | assumption | omega | (simp; done) | (simp only [ints_len] at *; omega) | (simp; omega))) | ((with_reducible refine (?_ : (_ : Int) < _)); (first | assumption | omega | (simp; done) | (simp only [ints_len] at *; omega) | (simp; omega))) | ((with_reducible refine (?_ : (_ : Nat) ≤ _)); (first | omega | (simp only [List.length_cons, List.length_nil]; omega) | (simp [ints]; done) | (simp; omega))) | ((with_reducible refine (?_ : (_ : Nat) < _)); (first | omega | (simp only [List.length_cons, List.length_nil]; omega) | (simp [ints]; done) | (simp; omega))) | ((with_reducible refine (?_ : (_ : Nat) = _)); (first | (with_reducible rfl) | (simp; done) | (simp only [fr_len]) | (simp only [ints_len]) | omega | (simp [*]; done))) | (refine And.intro ?_ ?_) | (intro h; first | (exact Bool.noConfusion h) | ((simp only [decide_eq_true_eq, decide_eq_false_iff_not, beq_iff_eq, bne_iff_ne, ne_eq, beq_eq_false_iff_ne, bne_eq_false_iff_eq, Bool.not_eq_true', Bool.not_eq_false', Bool.not_eq_true, Bool.not_eq_false, Int.not_le, Int.not_lt, Bool.and_eq_true, Bool.or_eq_true, Bool.or_eq_false_iff, Bool.and_eq_false_iff] at h); (try (first | (exact Bool.noConfusion h) | (exact (h trivial).elim)))) | skip) | ((refine (?_ : ACall _ _ _ _ _ _ _)); first | ((apply acall (h2)); (focus (repeat' (first | exact rfl | (refine And.intro ?_ ?_) | (simp only [ints_len]; done) | (simp; done) | omega)))) | ((apply acall (spec_foAct _ _ _ _ _ _ _)); (focus (repeat' (first | exact rfl | (refine And.intro ?_ ?_) | (simp only [ints_len]; done) | (simp; done) | omega))))) | ((with_reducible refine (?_ : chk _ _ = true)); kernel_rfl) | ((with_reducible refine (?_ : (_ : IntKind) = _)); (with_reducible rfl)) | ((with_reducible refine (?_ : eqC (C.pvw _ _ _) (C.pvw _ _ _))); exact rfl) | ((with_reducible refine (?_ : eqC (C.pv (Value.int IntKind.u64 _)) _)); exact rfl) | exact trivial)
    · have hne : (x, y, z) ≠ (a, b, c) := fun e => by simp only [Prod.mk.injEq] at e; simp_all
      obtain ⟨i1, i2⟩ := st hne
      refine ⟨(_, _, (fv x y z 0 1, po x y z 0 1 (-1) (cme (rt D) (x, y, z)), fv x y z (-1) (cme (rt D) (x, y, z)))), ?_, ?_, none, And.intro rfl (And.intro (by repeat' (first | exact trivial | exact rfl | (refine And.intro ?_ ?_))) (by repeat' (first | exact trivial | exact rfl | (refine And.intro ?_ ?_))))⟩
      · dsimp only
        rw [q1, q2, q3, l1]
        exact i1
      · dsimp only
        simp only [List.length_cons, List.length_nil]
        omega
    all_goals
      have he : (x, y, z) = (a, b, c) := by rw [h.1, h.2.1, h.2.2.1]
      obtain ⟨i1, i2⟩ := sp he
      first | omega | exact i2 | exact i1

theorem impl_cycle (D a b c : Int) (G : CG D (a, b, c)) : AFun Try.prog 52 [] [Fo a b c] (.c (.slc (0, 0) (cyP D (a, b, c)))) [] [FF (cyO D (a, b, c) (cyP D (a, b, c)))] := by
  have hp := (cyP_spec G.g G.c).2.1
  have h1 := impl_neighbour D a b c G.g
  have f1 := CyI.first G
  refine afun_intro fn52 rfl rfl (by repeat' (first | exact trivial | (simp; done) | refine ⟨?_, ?_⟩)) ?_
  unfold ac52
  repeat' (first | ((with_reducible refine (?_ : (_ : Bool) = _)); (with_reducible rfl)) | ((with_reducible refine (?_ : (_ : Nat × Nat) = _)); (with_reducible rfl)) | (with_reducible refine leafRI ?_) | (with_reducible refine leafRB ?_) | (with_reducible refine leafI ?_) | (with_reducible refine leafB ?_) | ((with_reducible refine (?_ : (_ : Int) = _)); (with_reducible rfl)) | ((with_reducible refine (?_ : (_ : List (List Value)) = _)); (with_reducible rfl)) | ((with_reducible refine (?_ : (_ : Int) ≠ 0)); (first | assumption | omega | (simp; done) | (simp only [ints_len] at *; omega) | (simp; omega))) | ((with_reducible refine (?_ : (_ : Int) ≤ _)); (first | assumption | omega | (simp; done) | (simp only [ints_len] at *; omega) | (simp; omega))) | ((with_reducible refine (?_ : (_ : Int) < _)); (first | assumption | omega | (simp; done) | (simp only [ints_len] at *; omega) | (simp; omega))) | ((with_reducible refine (?_ : (_ : Nat) ≤ _)); (first | omega | (simp only [List.length_cons, List.length_nil]; omega) | (simp [ints]; done) | (simp; omega))) | ((with_reducible refine (?_ : (_ : Nat) < _)); (first | omega | (simp only [List.length_cons, List.length_nil]; omega) | (simp [ints]; done) | (simp; omega))) | ((with_reducible refine (?_ : (_ : Nat) = _)); (first | (with_reducible rfl) | (simp; done) | (simp only [fr_len]) | (simp only [ints_len]) | omega | (simp [*]; done))) | (refine And.intro ?_ ?_) | (intro h; first | (exact Bool.noConfusion h) | ((simp only [decide_eq_true_eq, decide_eq_false_iff_not, beq_iff_eq, bne_iff_ne, ne_eq, beq_eq_false_iff_ne, bne_eq_false_iff_eq, Bool.not_eq_true', Bool.not_eq_false', Bool.not_eq_true, Bool.not_eq_false, Int.not_le, Int.not_lt, Bool.and_eq_true, Bool.or_eq_true, Bool.or_eq_false_iff, Bool.and_eq_false_iff] at h); (try (first | (exact Bool.noConfusion h) | (exact (h trivial).elim)))) | skip) | ((refine (?_ : ACall _ _ _ _ _ _ _)); first | ((apply acall (h1)); (focus (repeat' (first | exact rfl | (refine And.intro ?_ ?_) | (simp only [ints_len]; done) | (simp; done) | omega))))) | ((with_reducible refine (?_ : chk _ _ = true)); kernel_rfl) | ((with_reducible refine (?_ : (_ : IntKind) = _)); (with_reducible rfl)) | ((with_reducible refine (?_ : eqC (C.pvw _ _ _) (C.pvw _ _ _))); exact rfl) | ((with_reducible refine (?_ : eqC (C.pv (Value.int IntKind.u64 _)) _)); exact rfl) | exact trivial)
  refine loop_rule (σ := Nat × List (List Value) × T3 × T4) (fun s => [(3, .c (.slc (7, 0) s.1)), (4, .c (.ptr (4, 0) 0)), (5, .c (.ptr (5, 0) 0))]) (fun s => [((1, 0), .bx (c3 (a, b, c))), ((2, 0), .fl 37 3 []), ((7, 0), .fl 37 3 s.2.1), ((4, 0), .bx (c3 s.2.2.1)), ((5, 0), .bx (c4 s.2.2.2))]) (fun s => CyI D (a, b, c) s.1 s.2.1 s.2.2.1) (fun s => 2016 - s.1) ((1, _, cnx D (rt D) (a, b, c), (0, -1, 1, cme (rt D) (a, b, c)))) ?_ (by repeat' (first | exact trivial | exact rfl | (refine And.intro ?_ ?_))) (by repeat' (first | exact trivial | exact rfl | (refine And.intro ?_ ?_))) (fun s => ⟨rfl, rfl⟩) (fun s i h => by first | exact absurd h (Nat.not_lt_zero i) | (cases i with | zero => rfl | succ i => exact absurd (Nat.lt_of_succ_lt_succ h) (Nat.not_lt_zero i))) ?_
  · exact f1
  · rintro ⟨k, R, ⟨x, y, z⟩, ⟨p, q, r, s⟩⟩ I
    dsimp only at I ⊢
    obtain ⟨l1, l2, l3, l4⟩ := I.len G
    have h2 := impl_neighbour D x y z l3
    have st := I.step G
    have sp := I.stop G
    repeat' (first | ((with_reducible refine (?_ : (_ : Bool) = _)); (with_reducible rfl)) | ((with_reducible refine (?_ : (_ : Nat × Nat) = _)); (with_reducible rfl)) | (with_reducible refine leafRI ?_) | (with_reducible refine leafRB ?_) | (with_reducible refine leafI ?_) | (with_reducible refine leafB ?_) | ((with_reducible refine (?_ : (_ : Int) = _)); (with_reducible rfl)) | ((with_reducible refine (?_ : (_ : List (List Value)) = _)); (with_reducible rfl)) | ((with_reducible refine (?_ : (_ : Int) ≠ 0)); (first | assumption | omega | (simp; done) | (simp only [ints_len] at *; omega) | (simp; omega))) | ((with_reducible refine (?_ : (_ : Int) ≤ _)); (first | assumption | omega | (simp; done) | (simp only [ints_len] at *; omega) | (simp; omega))) | ((with_reducible refine (?_ : (_ : Int) < _)); (first | assumption | omega | (simp; done) | (simp only [ints_len] at *; omega) | (simp; omega))) | ((with_reducible refine (?_ : (_ : Nat) ≤ _)); (first | omega | (simp only [List.length_cons, List.length_nil]; omega) | (simp [ints]; done) | (simp; omega))) | ((with_reducible refine (?_ : (_ : Nat) < _)); (first | omega | (simp only [List.length_cons, List.length_nil]; omega) | (simp [ints]; done) | (simp; omega))) | ((with_reducible refine (?_ : (_ : Nat) = _)); (first | (with_reducible rfl) | (simp; done) | (simp only [fr_len]) | (simp only [ints_len]) | omega | (simp [*]; done))) | (refine And.intro ?_ ?_) | (intro h; first | (exact Bool.noConfusion h) | ((simp only [decide_eq_true_eq, decide_eq_false_iff_not, beq_iff_eq, bne_iff_ne, ne_eq, beq_eq_false_iff_ne, bne_eq_false_iff_eq, Bool.not_eq_true', Bool.not_eq_false', Bool.not_eq_true, Bool.not_eq_false, Int.not_le, Int.not_lt, Bool.and_eq_true, Bool.or_eq_true, Bool.or_eq_false_iff, Bool.and_eq_false_iff] at h); (try (first | (exact Bool.noConfusion h) | (exact (h trivial).elim)))) | skip) | ((refine (?_ : ACall _ _ _ _ _ _ _)); first | ((apply acall (h2)); (focus (repeat' (first | exact rfl | (refine And.intro ?_ ?_) | (simp only [ints_len]; done) | (simp; done) | omega))))) | ((with_reducible refine (?_ : chk _ _ = true)); kernel_rfl) | ((with_reducible refine (?_ : (_ : IntKind) = _)); (with_reducible rfl)) | ((with_reducible refine (?_ : eqC (C.pvw _ _ _) (C.pvw _ _ _))); exact rfl) | ((with_reducible refine (?_ : eqC (C.pv (Value.int IntKind.u64 _)) _)); exact rfl) | exact trivial)
    · have hne : (x, y, z) ≠ (a, b, c) := fun e => by simp only [Prod.mk.injEq] at e; simp_all
      obtain ⟨i1, i2⟩ := st hne
      refine ⟨(_, _, cnx D (rt D) (x, y, z), (p, q, r, s)), ?_, ?_, none, And.intro rfl (And.intro (by repeat' (first | exact trivial | exact rfl | (refine And.intro ?_ ?_))) (by repeat' (first | exact trivial | exact rfl | (refine And.intro ?_ ?_))))⟩
      · dsimp only
        rw [l1]
        exact i1
      · dsimp only
        simp only [List.length_cons, List.length_nil]
        omega
    all_goals
      have he : (x, y, z) = (a, b, c) := by rw [h.1, h.2.1, h.2.2.1]
      obtain ⟨i1, i2⟩ := sp he
      first | omega | exact i2 | exact i1

theorem spec_cyHas (l : List T3) (a b c : Int) (hl : l.length ≤ 1000000000) : AFun Try.prog 57 [] [Vf l, Fo a b c] (Bo (decide ((a, b, c) ∈ l))) [] [] := by
  have e1 := fr_len l
  refine afun_intro fn57 rfl rfl (by repeat' (first | exact trivial | (simp; done) | refine ⟨?_, ?_⟩)) ?_
  unfold ac57
  repeat' (first | ((with_reducible refine (?_ : (_ : Bool) = _)); (with_reducible rfl)) | ((with_reducible refine (?_ : (_ : Nat × Nat) = _)); (with_reducible rfl)) | (with_reducible refine leafRI ?_) | (with_reducible refine leafRB ?_) | (with_reducible refine leafI ?_) | (with_reducible refine leafB ?_) | ((with_reducible refine (?_ : (_ : Int) = _)); (with_reducible rfl)) | ((with_reducible refine (?_ : (_ : List (List Value)) = _)); (with_reducible rfl)) | ((with_reducible refine (?_ : (_ : Int) ≠ 0)); (first | assumption | omega | (simp; done) | (simp only [ints_len] at *; omega) | (simp; omega))) | ((with_reducible refine (?_ : (_ : Int) ≤ _)); (first | assumption | omega | (simp; done) | (simp only [ints_len] at *; omega) | (simp; omega))) | ((with_reducible refine (?_ : (_ : Int) < _)); (first | assumption | omega | (simp; done) | (simp only [ints_len] at *; omega) | (simp; omega))) | ((with_reducible refine (?_ : (_ : Nat) ≤ _)); (first | omega | (simp only [List.length_cons, List.length_nil]; omega) | (simp [ints]; done) | (simp; omega))) | ((with_reducible refine (?_ : (_ : Nat) < _)); (first | omega | (simp only [List.length_cons, List.length_nil]; omega) | (simp [ints]; done) | (simp; omega))) | ((with_reducible refine (?_ : (_ : Nat) = _)); (first | (with_reducible rfl) | (simp; done) | (simp only [fr_len]) | (simp only [ints_len]) | omega | (simp [*]; done))) | (refine And.intro ?_ ?_) | (intro h; first | (exact Bool.noConfusion h) | ((simp only [decide_eq_true_eq, decide_eq_false_iff_not, beq_iff_eq, bne_iff_ne, ne_eq, beq_eq_false_iff_ne, bne_eq_false_iff_eq, Bool.not_eq_true', Bool.not_eq_false', Bool.not_eq_true, Bool.not_eq_false, Int.not_le, Int.not_lt, Bool.and_eq_true, Bool.or_eq_true, Bool.or_eq_false_iff, Bool.and_eq_false_iff] at h); (try (first | (exact Bool.noConfusion h) | (exact (h trivial).elim)))) | skip) | ((with_reducible refine (?_ : chk _ _ = true)); kernel_rfl) | ((with_reducible refine (?_ : (_ : IntKind) = _)); (with_reducible rfl)) | ((with_reducible refine (?_ : eqC (C.pvw _ _ _) (C.pvw _ _ _))); exact rfl) | ((with_reducible refine (?_ : eqC (C.pv (Value.int IntKind.u64 _)) _)); exact rfl) | exact trivial)
  refine loop_rule (σ := Int) (fun s => [(9, I s)]) (fun s => [((3, 0), .bx (c3 (a, b, c)))]) (fun s => 0 ≤ s ∧ s ≤ l.length ∧ ∀ j : Nat, j < s.toNat → l[j]? ≠ some (a, b, c)) (fun s => (l.length - s).toNat) (0) ?_ (by repeat' (first | exact trivial | exact rfl | (refine And.intro ?_ ?_))) (by repeat' (first | exact trivial | exact rfl | (refine And.intro ?_ ?_))) (fun s => ⟨rfl, rfl⟩) (fun s i h => by first | exact absurd h (Nat.not_lt_zero i) | (cases i with | zero => rfl | succ i => exact absurd (Nat.lt_of_succ_lt_succ h) (Nat.not_lt_zero i))) ?_
  · exact ⟨by omega, by omega, fun j h => by omega⟩
  · rintro i ⟨g1, g2, g3⟩
    have v0 : wrap64 (i + 1) = i + 1 := wrap_small (by omega) (by omega)
    repeat' (first | ((with_reducible refine (?_ : (_ : Bool) = _)); (with_reducible rfl)) | ((with_reducible refine (?_ : (_ : Nat × Nat) = _)); (with_reducible rfl)) | (with_reducible refine leafRI ?_) | (with_reducible refine leafRB ?_) | (with_reducible refine leafI ?_) | (with_reducible refine leafB ?_) | ((with_reducible refine (?_ : (_ : Int) = _)); (with_reducible rfl)) | ((with_reducible refine (?_ : (_ : List (List Value)) = _)); (with_reducible rfl)) | ((with_reducible refine (?_ : (_ : Int) ≠ 0)); (first | assumption | omega | (simp; done) | (simp only [ints_len] at *; omega) | (simp; omega))) | ((with_reducible refine (?_ : (_ : Int) ≤ _)); (first | assumption | omega | (simp; done) | (simp only [ints_len] at *; omega) | (simp; omega))) | ((with_reducible refine (?_ : (_ : Int) < _)); (first | assumption | omega | (simp; done) | (simp only [ints_len] at *; omega) | (simp; omega))) | ((with_reducible refine (?_ : (_ : Nat) ≤ _)); (first | omega | (simp only [List.length_cons, List.length_nil]; omega) | (simp [ints]; done) | (simp; omega))) | ((with_reducible refine (?_ : (_ : Nat) < _)); (first | omega | (simp only [List.length_cons, List.length_nil]; omega) | (simp [ints]; done) | (simp; omega))) | ((with_reducible refine (?_ : (_ : Nat) = _)); (first | (with_reducible rfl) | (simp; done) | (simp only [fr_len]) | (simp only [ints_len]) | omega | (simp [*]; done))) | ((with_reducible refine fr_at ?_ ?_); (focus (constructor <;> (first | omega | (simp only [fr_len] at *; omega)))); intro n hn) | (refine And.intro ?_ ?_) | (intro h; first | (exact Bool.noConfusion h) | ((simp only [decide_eq_true_eq, decide_eq_false_iff_not, beq_iff_eq, bne_iff_ne, ne_eq, beq_eq_false_iff_ne, bne_eq_false_iff_eq, Bool.not_eq_true', Bool.not_eq_false', Bool.not_eq_true, Bool.not_eq_false, Int.not_le, Int.not_lt, Bool.and_eq_true, Bool.or_eq_true, Bool.or_eq_false_iff, Bool.and_eq_false_iff] at h); (try (first | (exact Bool.noConfusion h) | (exact (h trivial).elim)))) | skip) | ((with_reducible refine (?_ : chk _ _ = true)); kernel_rfl) | ((with_reducible refine (?_ : (_ : IntKind) = _)); (with_reducible rfl)) | ((with_reducible refine (?_ : eqC (C.pvw _ _ _) (C.pvw _ _ _))); exact rfl) | ((with_reducible refine (?_ : eqC (C.pv (Value.int IntKind.u64 _)) _)); exact rfl) | exact trivial)
    · symm
      rw [decide_eq_true_eq]
      have hm := List.mem_of_getElem? hn
      have he : n = (a, b, c) := by obtain ⟨u1, u2, u3, _⟩ := h; simp [Prod.ext_iff, u1, u2, u3]
      rwa [he] at hm
    · refine ⟨(wrap64 (i + 1)), ?_, ?_, none, And.intro rfl (And.intro (by repeat' (first | exact trivial | exact rfl | (refine And.intro ?_ ?_))) (by repeat' (first | exact trivial | exact rfl | (refine And.intro ?_ ?_))))⟩
      · rw [v0]
        refine ⟨by omega, by omega, fun j hj => ?_⟩
        by_cases e : j = i.toNat
        · subst e
          rw [hn]
          intro e
          simp only [Option.some.injEq] at e
          rw [e] at h
          simp at h
        · exact g3 j (by omega)
      · rw [v0]; omega
    · symm
      rw [decide_eq_false_iff_not]
      intro hm
      obtain ⟨j, hj, e⟩ := List.mem_iff_getElem.1 hm
      exact g3 j (by omega) (by rw [List.getElem?_eq_getElem hj, e])

theorem impl_hasForm (l : List T3) (a b c : Int) (hl : l.length ≤ 1000000000) : AFun Try.prog 51 [] [Vf l, Fo a b c] (Bo (decide ((a, b, c) ∈ l))) [] [] := by
  have e1 := fr_len l
  refine afun_intro fn51 rfl rfl (by repeat' (first | exact trivial | (simp; done) | refine ⟨?_, ?_⟩)) ?_
  unfold ac51
  repeat' (first | ((with_reducible refine (?_ : (_ : Bool) = _)); (with_reducible rfl)) | ((with_reducible refine (?_ : (_ : Nat × Nat) = _)); (with_reducible rfl)) | (with_reducible refine leafRI ?_) | (with_reducible refine leafRB ?_) | (with_reducible refine leafI ?_) | (with_reducible refine leafB ?_) | ((with_reducible refine (?_ : (_ : Int) = _)); (with_reducible rfl)) | ((with_reducible refine (?_ : (_ : List (List Value)) = _)); (with_reducible rfl)) | ((with_reducible refine (?_ : (_ : Int) ≠ 0)); (first | assumption | omega | (simp; done) | (simp only [ints_len] at *; omega) | (simp; omega))) | ((with_reducible refine (?_ : (_ : Int) ≤ _)); (first | assumption | omega | (simp; done) | (simp only [ints_len] at *; omega) | (simp; omega))) | ((with_reducible refine (?_ : (_ : Int) < _)); (first | assumption | omega | (simp; done) | (simp only [ints_len] at *; omega) | (simp; omega))) | ((with_reducible refine (?_ : (_ : Nat) ≤ _)); (first | omega | (simp only [List.length_cons, List.length_nil]; omega) | (simp [ints]; done) | (simp; omega))) | ((with_reducible refine (?_ : (_ : Nat) < _)); (first | omega | (simp only [List.length_cons, List.length_nil]; omega) | (simp [ints]; done) | (simp; omega))) | ((with_reducible refine (?_ : (_ : Nat) = _)); (first | (with_reducible rfl) | (simp; done) | (simp only [fr_len]) | (simp only [ints_len]) | omega | (simp [*]; done))) | (refine And.intro ?_ ?_) | (intro h; first | (exact Bool.noConfusion h) | ((simp only [decide_eq_true_eq, decide_eq_false_iff_not, beq_iff_eq, bne_iff_ne, ne_eq, beq_eq_false_iff_ne, bne_eq_false_iff_eq, Bool.not_eq_true', Bool.not_eq_false', Bool.not_eq_true, Bool.not_eq_false, Int.not_le, Int.not_lt, Bool.and_eq_true, Bool.or_eq_true, Bool.or_eq_false_iff, Bool.and_eq_false_iff] at h); (try (first | (exact Bool.noConfusion h) | (exact (h trivial).elim)))) | skip) | ((with_reducible refine (?_ : chk _ _ = true)); kernel_rfl) | ((with_reducible refine (?_ : (_ : IntKind) = _)); (with_reducible rfl)) | ((with_reducible refine (?_ : eqC (C.pvw _ _ _) (C.pvw _ _ _))); exact rfl) | ((with_reducible refine (?_ : eqC (C.pv (Value.int IntKind.u64 _)) _)); exact rfl) | exact trivial)
  refine loop_rule (σ := Int) (fun s => [(9, I s)]) (fun s => [((3, 0), .bx (c3 (a, b, c)))]) (fun s => 0 ≤ s ∧ s ≤ l.length ∧ ∀ j : Nat, j < s.toNat → l[j]? ≠ some (a, b, c)) (fun s => (l.length - s).toNat) (0) ?_ (by repeat' (first | exact trivial | exact rfl | (refine And.intro ?_ ?_))) (by repeat' (first | exact trivial | exact rfl | (refine And.intro ?_ ?_))) (fun s => ⟨rfl, rfl⟩) (fun s i h => by first | exact absurd h (Nat.not_lt_zero i) | (cases i with | zero => rfl | succ i => exact absurd (Nat.lt_of_succ_lt_succ h) (Nat.not_lt_zero i))) ?_
  · exact ⟨by omega, by omega, fun j h => by omega⟩
  · rintro i ⟨g1, g2, g3⟩
    have v0 : wrap64 (i + 1) = i + 1 := wrap_small (by omega) (by omega)
    repeat' (first | ((with_reducible refine (?_ : (_ : Bool) = _)); (with_reducible rfl)) | ((with_reducible refine (?_ : (_ : Nat × Nat) = _)); (with_reducible rfl)) | (with_reducible refine leafRI ?_) | (with_reducible refine leafRB ?_) | (with_reducible refine leafI ?_) | (with_reducible refine leafB ?_) | ((with_reducible refine (?_ : (_ : Int) = _)); (with_reducible rfl)) | ((with_reducible refine (?_ : (_ : List (List Value)) = _)); (with_reducible rfl)) | ((with_reducible refine (?_ : (_ : Int) ≠ 0)); (first | assumption | omega | (simp; done) | (simp only [ints_len] at *; omega) | (simp; omega))) | ((with_reducible refine (?_ : (_ : Int) ≤ _)); (first | assumption | omega | (simp; done) | (simp only [ints_len] at *; omega) | (simp; omega))) | ((with_reducible refine (?_ : (_ : Int) < _)); (first | assumption | omega | (simp; done) | (simp only [ints_len] at *; omega) | (simp; omega))) | ((with_reducible refine (?_ : (_ : Nat) ≤ _)); (first | omega | (simp only [List.length_cons, List.length_nil]; omega) | (simp [ints]; done) | (simp; omega))) | ((with_reducible refine (?_ : (_ : Nat) < _)); (first | omega | (simp only [List.length_cons, List.length_nil]; omega) | (simp [ints]; done) | (simp; omega))) | ((with_reducible refine (?_ : (_ : Nat) = _)); (first | (with_reducible rfl) | (simp; done) | (simp only [fr_len]) | (simp only [ints_len]) | omega | (simp [*]; done))) | ((with_reducible refine fr_at ?_ ?_); (focus (constructor <;> (first | omega | (simp only [fr_len] at *; omega)))); intro n hn) | (refine And.intro ?_ ?_) | (intro h; first | (exact Bool.noConfusion h) | ((simp only [decide_eq_true_eq, decide_eq_false_iff_not, beq_iff_eq, bne_iff_ne, ne_eq, beq_eq_false_iff_ne, bne_eq_false_iff_eq, Bool.not_eq_true', Bool.not_eq_false', Bool.not_eq_true, Bool.not_eq_false, Int.not_le, Int.not_lt, Bool.and_eq_true, Bool.or_eq_true, Bool.or_eq_false_iff, Bool.and_eq_false_iff] at h); (try (first | (exact Bool.noConfusion h) | (exact (h trivial).elim)))) | skip) | ((with_reducible refine (?_ : chk _ _ = true)); kernel_rfl) | ((with_reducible refine (?_ : (_ : IntKind) = _)); (with_reducible rfl)) | ((with_reducible refine (?_ : eqC (C.pvw _ _ _) (C.pvw _ _ _))); exact rfl) | ((with_reducible refine (?_ : eqC (C.pv (Value.int IntKind.u64 _)) _)); exact rfl) | exact trivial)
    · symm
      rw [decide_eq_true_eq]
      have hm := List.mem_of_getElem? hn
      have he : n = (a, b, c) := by obtain ⟨u1, u2, u3, _⟩ := h; simp [Prod.ext_iff, u1, u2, u3]
      rwa [he] at hm
    · refine ⟨(wrap64 (i + 1)), ?_, ?_, none, And.intro rfl (And.intro (by repeat' (first | exact trivial | exact rfl | (refine And.intro ?_ ?_))) (by repeat' (first | exact trivial | exact rfl | (refine And.intro ?_ ?_))))⟩
      · rw [v0]
        refine ⟨by omega, by omega, fun j hj => ?_⟩
        by_cases e : j = i.toNat
        · subst e
          rw [hn]
          intro e
          simp only [Option.some.injEq] at e
          rw [e] at h
          simp at h
        · exact g3 j (by omega)
      · rw [v0]; omega
    · symm
      rw [decide_eq_false_iff_not]
      intro hm
      obtain ⟨j, hj, e⟩ := List.mem_iff_getElem.1 hm
      exact g3 j (by omega) (by rw [List.getElem?_eq_getElem hj, e])


end Go.Proofs.Ytdgfnmkiabjfnaa

/-! SameCycle. -/
namespace Go.Proofs.Ytdgfnmkiabjfnaa
open Go.RowKit
set_option linter.unusedSimpArgs false
set_option linter.unusedVariables false
set_option maxRecDepth 100000
set_option maxHeartbeats 2000000

def dsF (f : T3) : Int := dsc f.1 f.2.1 f.2.2
def rcT (f : T3) : T3 × T4 × Bool := if cgG f then rcR (dsF f) f else (z3, z4, false)
noncomputable def cyT (f : T3) : List T3 := cyO (dsF f) f (cyP (dsF f) f)
theorem rcT_CG {f : T3} (h : (rcT f).2.2 = true) : CG (dsF (rcT f).1) (rcT f).1 := by
  unfold rcT at h ⊢
  by_cases hg : cgG f = true
  · rw [if_pos hg] at h ⊢
    obtain ⟨h1, h2⟩ := rcR_cyc (IG_of hg) h
    have e : dsF (rcR (dsF f) f).1 = dsF f := h1.dsc
    rw [e]
    exact ⟨h1, h2⟩
  · rw [if_neg hg] at h; cases h
theorem cyT_len {f : T3} (h : CG (dsF f) f) : (cyT f).length ≤ 2016 := by
  rw [cyT, cyO_len]
  exact (cyP_spec h.g h.c).2.1

theorem spec_cyReduceT (a b c : Int) (h : cgG (a, b, c) = true) : AFun Try.prog 55 [] [Fo a b c] (P3 (c3 (rcT (a, b, c)).1) (c4 (rcT (a, b, c)).2.1) (rcT (a, b, c)).2.2) [] [] := by
  rw [rcT, if_pos h]
  exact spec_cyReduce _ a b c (IG_of h)

theorem impl_ReduceT (a b c : Int) : AFun Try.prog 50 [] [Fo a b c] (P3 (c3 (rcT (a, b, c)).1) (c4 (rcT (a, b, c)).2.1) (rcT (a, b, c)).2.2) [] [] := impl_ReduceIndefinite a b c

theorem spec_cyCycleT (a b c : Int) (h : CG (dsF (a, b, c)) (a, b, c)) : AFun Try.prog 58 [] [Fo a b c] (.c (.slc (0, 0) (cyT (a, b, c)).length)) [] [FF (cyT (a, b, c))] := by
  have := spec_cyCycle _ a b c h
  rw [cyT, cyO_len]
  exact this

theorem impl_cycleT (a b c : Int) (h : CG (dsF (a, b, c)) (a, b, c)) : AFun Try.prog 52 [] [Fo a b c] (.c (.slc (0, 0) (cyT (a, b, c)).length)) [] [FF (cyT (a, b, c))] := by
  have := impl_cycle _ a b c h
  rw [cyT, cyO_len]
  exact this


def scB (f g : T3) : Bool := (rcT f).2.2 && (rcT g).2.2
noncomputable def scE (f g : T3) : Bool := scB f g && decide ((rcT g).1 ∈ cyT (rcT f).1)

theorem rcT_no {f : T3} (h : cgG f = false) : (rcT f).2.2 = false := by simp [rcT, h]

theorem spec_SameCycle (a b c d e f : Int) (hd : dsc a b c = dsc d e f) : AFun Try.prog 36 [] [Fo a b c, Fo d e f] (PBB (scE (a, b, c) (d, e, f)) (scB (a, b, c) (d, e, f))) [] [] := by
  have k1 : (rcT (a, b, c)).2.2 = true → CG (dsF (rcT (a, b, c)).1) (rcT (a, b, c)).1 := rcT_CG
  have k2 := rcT_no (f := (a, b, c))
  have k3 := rcT_no (f := (d, e, f))
  have hle : 2016 ≤ 1000000000 := by omega
  unfold scE scB
  refine afun_intro fn36 rfl rfl (by repeat' (first | exact trivial | (simp; done) | refine ⟨?_, ?_⟩)) ?_
  unfold ac36
  repeat' (first | ((with_reducible refine (?_ : (_ : Bool) = _)); (with_reducible rfl)) | ((with_reducible refine (?_ : (_ : Nat × Nat) = _)); (with_reducible rfl)) | (with_reducible refine leafRI ?_) | (with_reducible refine leafRB ?_) | (with_reducible refine leafI ?_) | (with_reducible refine leafB ?_) | ((with_reducible refine (?_ : (_ : Int) = _)); (with_reducible rfl)) | ((with_reducible refine (?_ : (_ : List (List Value)) = _)); (with_reducible rfl)) | ((with_reducible refine (?_ : (_ : Int) ≠ 0)); (first | assumption | omega | (simp; done) | (simp only [ints_len] at *; omega) | (simp; omega))) | ((with_reducible refine (?_ : (_ : Int) ≤ _)); (first | assumption | omega | (simp; done) | (simp only [ints_len] at *; omega) | (simp; omega))) | ((with_reducible refine (?_ : (_ : Int) < _)); (first | assumption | omega | (simp; done) | (simp only [ints_len] at *; omega) | (simp; omega))) | ((with_reducible refine (?_ : (_ : Nat) ≤ _)); (first | omega | (simp only [List.length_cons, List.length_nil]; omega) | (simp [ints]; done) | (simp; omega))) | ((with_reducible refine (?_ : (_ : Nat) < _)); (first | omega | (simp only [List.length_cons, List.length_nil]; omega) | (simp [ints]; done) | (simp; omega))) | ((with_reducible refine (?_ : (_ : Nat) = _)); (first | (with_reducible rfl) | (simp; done) | (simp only [fr_len]) | (simp only [ints_len]) | omega | (simp [*]; done))) | (refine And.intro ?_ ?_) | (intro h; first | (exact Bool.noConfusion h) | ((simp only [decide_eq_true_eq, decide_eq_false_iff_not, beq_iff_eq, bne_iff_ne, ne_eq, beq_eq_false_iff_ne, bne_eq_false_iff_eq, Bool.not_eq_true', Bool.not_eq_false', Bool.not_eq_true, Bool.not_eq_false, Int.not_le, Int.not_lt, Bool.and_eq_true, Bool.or_eq_true, Bool.or_eq_false_iff, Bool.and_eq_false_iff] at h); (try (first | (exact Bool.noConfusion h) | (exact (h trivial).elim)))) | skip) | ((refine (?_ : ACall _ _ _ _ _ _ _)); first | ((apply acall (spec_cyGood _ _ _)); (focus (repeat' (first | exact rfl | (refine And.intro ?_ ?_) | (simp only [ints_len]; done) | (simp; done) | omega)))) | ((apply acall (spec_cyReduceT _ _ _ ?_)); (focus (repeat' (first | exact rfl | (refine And.intro ?_ ?_) | (simp only [ints_len]; done) | (simp; done) | omega)))) | ((apply acall (spec_foDisc _ _ _)); (focus (repeat' (first | exact rfl | (refine And.intro ?_ ?_) | (simp only [ints_len]; done) | (simp; done) | omega)))) | ((apply acall (spec_cyCycleT _ _ _ ?_)); (focus (repeat' (first | exact rfl | (refine And.intro ?_ ?_) | (simp only [ints_len]; done) | (simp; done) | omega)))) | ((apply acall (spec_cyHas _ _ _ _ ?_)); (focus (repeat' (first | exact rfl | (refine And.intro ?_ ?_) | (simp only [ints_len]; done) | (simp; done) | omega))))) | ((with_reducible refine (?_ : chk _ _ = true)); kernel_rfl) | ((with_reducible refine (?_ : (_ : IntKind) = _)); (with_reducible rfl)) | ((with_reducible refine (?_ : eqC (C.pvw _ _ _) (C.pvw _ _ _))); exact rfl) | ((with_reducible refine (?_ : eqC (C.pv (Value.int IntKind.u64 _)) _)); exact rfl) | exact trivial)
  all_goals first | assumption | (exact absurd hd h) | (have hk := k1 (by assumption); first | exact hk | (exact Nat.le_trans (cyT_len hk) hle)) | (simp_all; done) | skip

theorem impl_SameCycle (a b c d e f : Int) : AFun Try.prog 32 [] [Fo a b c, Fo d e f] (PBB (scE (a, b, c) (d, e, f)) (scB (a, b, c) (d, e, f))) [] [] := by
  have k1 : (rcT (a, b, c)).2.2 = true → CG (dsF (rcT (a, b, c)).1) (rcT (a, b, c)).1 := rcT_CG
  have e3 : ∀ x : T3, (x.1, x.2.1, x.2.2) = x := fun _ => rfl
  have hle : 2016 ≤ 1000000000 := by omega
  unfold scE scB
  refine afun_intro fn32 rfl rfl (by repeat' (first | exact trivial | (simp; done) | refine ⟨?_, ?_⟩)) ?_
  unfold ac32
  repeat' (first | ((with_reducible refine (?_ : (_ : Bool) = _)); (with_reducible rfl)) | ((with_reducible refine (?_ : (_ : Nat × Nat) = _)); (with_reducible rfl)) | (with_reducible refine leafRI ?_) | (with_reducible refine leafRB ?_) | (with_reducible refine leafI ?_) | (with_reducible refine leafB ?_) | ((with_reducible refine (?_ : (_ : Int) = _)); (with_reducible rfl)) | ((with_reducible refine (?_ : (_ : List (List Value)) = _)); (with_reducible rfl)) | ((with_reducible refine (?_ : (_ : Int) ≠ 0)); (first | assumption | omega | (simp; done) | (simp only [ints_len] at *; omega) | (simp; omega))) | ((with_reducible refine (?_ : (_ : Int) ≤ _)); (first | assumption | omega | (simp; done) | (simp only [ints_len] at *; omega) | (simp; omega))) | ((with_reducible refine (?_ : (_ : Int) < _)); (first | assumption | omega | (simp; done) | (simp only [ints_len] at *; omega) | (simp; omega))) | ((with_reducible refine (?_ : (_ : Nat) ≤ _)); (first | omega | (simp only [List.length_cons, List.length_nil]; omega) | (simp [ints]; done) | (simp; omega))) | ((with_reducible refine (?_ : (_ : Nat) < _)); (first | omega | (simp only [List.length_cons, List.length_nil]; omega) | (simp [ints]; done) | (simp; omega))) | ((with_reducible refine (?_ : (_ : Nat) = _)); (first | (with_reducible rfl) | (simp; done) | (simp only [fr_len]) | (simp only [ints_len]) | omega | (simp [*]; done))) | (refine And.intro ?_ ?_) | (intro h; first | (exact Bool.noConfusion h) | ((simp only [decide_eq_true_eq, decide_eq_false_iff_not, beq_iff_eq, bne_iff_ne, ne_eq, beq_eq_false_iff_ne, bne_eq_false_iff_eq, Bool.not_eq_true', Bool.not_eq_false', Bool.not_eq_true, Bool.not_eq_false, Int.not_le, Int.not_lt, Bool.and_eq_true, Bool.or_eq_true, Bool.or_eq_false_iff, Bool.and_eq_false_iff] at h); (try (first | (exact Bool.noConfusion h) | (exact (h trivial).elim)))) | skip) | ((refine (?_ : ACall _ _ _ _ _ _ _)); first | ((apply acall (impl_ReduceT _ _ _)); (focus (repeat' (first | exact rfl | (refine And.intro ?_ ?_) | (simp only [ints_len]; done) | (simp; done) | omega)))) | ((apply acall (impl_cycleT _ _ _ ?_)); (focus (repeat' (first | exact rfl | (refine And.intro ?_ ?_) | (simp only [ints_len]; done) | (simp; done) | omega)))) | ((apply acall (impl_hasForm _ _ _ _ ?_)); (focus (repeat' (first | exact rfl | (refine And.intro ?_ ?_) | (simp only [ints_len]; done) | (simp; done) | omega))))) | ((with_reducible refine (?_ : chk _ _ = true)); kernel_rfl) | ((with_reducible refine (?_ : (_ : IntKind) = _)); (with_reducible rfl)) | ((with_reducible refine (?_ : eqC (C.pvw _ _ _) (C.pvw _ _ _))); exact rfl) | ((with_reducible refine (?_ : eqC (C.pv (Value.int IntKind.u64 _)) _)); exact rfl) | exact trivial)
  all_goals first | (have hk := k1 (by assumption); first | exact hk | (exact Nat.le_trans (cyT_len hk) hle)) | (simp_all; done) | skip

end Go.Proofs.Ytdgfnmkiabjfnaa

/-! Matrices that are not hyperbolic: the plain laws. -/
namespace Go.Proofs.Ytdgfnmkiabjfnaa
open Go.RowKit
set_option linter.unusedSimpArgs false
set_option linter.unusedVariables false
set_option maxRecDepth 100000
set_option maxHeartbeats 2000000

/-! the reduced form of discriminant -3 or -4 -/
def dsk (f : T3) : Int := 4 * f.1 * f.2.2 - f.2.1 * f.2.1
theorem nx_dsk {a b c : Int} (h : gd (a, b, c)) (hr : red a b c = false) : dsk (nxF (a, b, c)) = dsk (a, b, c) := by
  by_cases hn : (a - b) / (2 * a) = 0
  · obtain ⟨e, _⟩ := nx_S h hn hr
    rw [e]
    unfold dsk
    dsimp only
    grind
  · obtain ⟨e, _⟩ := nx_T h rfl hn
    rw [e]
    unfold dsk
    dsimp only
    grind
theorem rdS_keep : ∀ (k : Nat) (f : T3) (m : T4), gd f → mr f ≤ k → redT (rdS k f m).1 = true ∧ gd (rdS k f m).1 ∧ dsk (rdS k f m).1 = dsk f
  | 0, f, m, h, hk => ⟨mr_zero (f := f) (by omega), h, rfl⟩
  | k + 1, f, m, h, hk => by
    simp only [rdS]
    by_cases hr : redT f = true
    · rw [if_pos hr]; exact ⟨hr, h, rfl⟩
    · rw [if_neg hr]
      have hr' : redT f = false := by simpa using hr
      obtain ⟨g1, g2⟩ := nx_gd' h hr'
      obtain ⟨k1, k2, k3⟩ := rdS_keep k (nxF f) (mulT m (stp f.1 f.2.1 f.2.2)) g1 (by omega)
      exact ⟨k1, k2, by rw [k3]; exact nx_dsk h hr'⟩
theorem rdR_keep {f : T3} (h : gd f) : redT (rdR f).1 = true ∧ gd (rdR f).1 ∧ dsk (rdR f).1 = dsk f := rdS_keep _ _ _ h (Nat.le_refl _)
theorem red_small {f : T3} (hr : redT f = true) (hg : gd f) {k : Int} (hd : dsk f = k) (hk : k = 3 ∨ k = 4) : f = (1, k % 2, 1) := by
  obtain ⟨a, b, c⟩ := f
  obtain ⟨h1, h2, h3, h4, h5, h6⟩ := hg
  simp only [redT, red, Bool.and_eq_true, Bool.or_eq_true, decide_eq_true_eq] at hr
  unfold dsk at hd
  dsimp only at *
  have e1 : a * a ≤ a * c := Int.mul_le_mul_of_nonneg_left (by omega) (by omega)
  have e2 : 0 ≤ (a - b) * (a + b) := Int.mul_nonneg (by omega) (by omega)
  have e3 : (a - b) * (a + b) = a * a - b * b := by grind
  have e4 : 4 * a * c = 4 * (a * c) := by rw [Int.mul_assoc]
  have ha : a = 1 := by
    rcases Int.lt_or_le 1 a with h | h
    · have : 2 * 2 ≤ a * a := Int.mul_le_mul (by omega) (by omega) (by omega) (by omega)
      omega
    · omega
  subst ha
  have hb : b = 0 ∨ b = 1 := by omega
  rcases hb with rfl | rfl
  · have : k = 4 := by omega
    subst this
    have hc : c = 1 := by omega
    subst hc
    rfl
  · have : k = 3 := by omega
    subst this
    have hc : c = 1 := by omega
    subst hc
    rfl
theorem rdR_small {f : T3} (h : gd f) {k : Int} (hd : dsk f = k) (hk : k = 3 ∨ k = 4) : (rdR f).1 = (1, k % 2, 1) := by
  obtain ⟨k1, k2, k3⟩ := rdR_keep h
  exact red_small k1 k2 (k3.trans hd) hk

/-! content and direction -/
def cntF (f : T3) : Int := ((Int.gcd (Int.gcd f.1 f.2.1) f.2.2 : Nat) : Int)
def dirF (f : T3) : Int := if f.1 < 0 ∨ (f.1 = 0 ∧ f.2.2 < 0) then -cntF f else cntF f
theorem cnt_dvd (f : T3) : cntF f ∣ f.1 ∧ cntF f ∣ f.2.1 ∧ cntF f ∣ f.2.2 := by
  unfold cntF
  have h1 : ((Int.gcd ((Int.gcd f.1 f.2.1 : Nat) : Int) f.2.2 : Nat) : Int) ∣ ((Int.gcd f.1 f.2.1 : Nat) : Int) := Int.gcd_dvd_left ..
  exact ⟨Int.dvd_trans h1 (Int.gcd_dvd_left ..), Int.dvd_trans h1 (Int.gcd_dvd_right ..), Int.gcd_dvd_right ..⟩
theorem cnt_one {f : T3} {k : Int} (hd : dsk f = k) (hk : k = 3 ∨ k = 4) : cntF f = 1 := by
  obtain ⟨⟨x, hx⟩, ⟨y, hy⟩, ⟨z, hz⟩⟩ := cnt_dvd f
  have hg : 0 ≤ cntF f := by unfold cntF; omega
  unfold dsk at hd
  generalize cntF f = g at *
  rw [hx, hy, hz] at hd
  have e1 : 4 * (g * x) * (g * z) - g * y * (g * y) = (g * g) * (4 * (x * z) - y * y) := by grind
  rw [e1] at hd
  have hg3 : g ≤ 2 := by
    rcases Int.lt_or_le 2 g with h | h
    · have h9 : 3 * 3 ≤ g * g := Int.mul_le_mul (by omega) (by omega) (by omega) (by omega)
      have hdv : g * g ∣ k := ⟨_, hd.symm⟩
      have := Int.le_of_dvd (by omega) hdv
      omega
    · exact h
  rcases (show g = 0 ∨ g = 1 ∨ g = 2 by omega) with rfl | rfl | rfl
  · omega
  · rfl
  · exfalso
    have e2 : (2 : Int) * 2 * (4 * (x * z) - y * y) = 16 * (x * z) - 4 * (y * y) := by grind
    rw [e2] at hd
    have hy4 : y * y % 4 = 0 ∨ y * y % 4 = 1 := by
      rcases (show y % 4 = 0 ∨ y % 4 = 1 ∨ y % 4 = 2 ∨ y % 4 = 3 by omega) with h | h | h | h <;> rw [Int.mul_emod, h] <;> simp
    omega
theorem dir_small {f : T3} {k : Int} (hd : dsk f = k) (hk : k = 3 ∨ k = 4) : f.1 ≠ 0 ∧ dirF f = f.1.sign := by
  have h1 := cnt_one hd hk
  have h0 : f.1 ≠ 0 := by
    intro h
    unfold dsk at hd
    rw [h] at hd
    have : 0 ≤ f.2.1 * f.2.1 := by rw [← Int.natAbs_mul_self]; omega
    simp only [Int.mul_zero, Int.zero_mul] at hd
    omega
  refine ⟨h0, ?_⟩
  unfold dirF
  rw [h1]
  rcases Int.lt_trichotomy f.1 0 with h | h | h
  · rw [if_pos (Or.inl h), Int.sign_eq_neg_one_of_neg h]
  · exact absurd h h0
  · rw [if_neg (by omega), Int.sign_eq_one_of_pos h]
theorem cnt_zero {f : T3} : cntF f = 0 ↔ f.1 = 0 ∧ f.2.1 = 0 ∧ f.2.2 = 0 := by
  constructor
  · intro h
    obtain ⟨h1, h2, h3⟩ := cnt_dvd f
    rw [h] at h1 h2 h3
    exact ⟨Int.zero_dvd.1 h1, Int.zero_dvd.1 h2, Int.zero_dvd.1 h3⟩
  · rintro ⟨h1, h2, h3⟩
    unfold cntF
    rw [h1, h2, h3]
    rfl
theorem dir_flat {f : T3} (hd : dsk f = 0) : (cntF f = 0 ↔ f.1 + f.2.2 = 0) ∧ 0 ≤ cntF f ∧ dirF f = if f.1 + f.2.2 < 0 then -cntF f else cntF f := by
  have hg : 0 ≤ cntF f := by unfold cntF; omega
  have hz := cnt_zero (f := f)
  have h0 : 0 ≤ f.2.1 * f.2.1 := by rw [← Int.natAbs_mul_self]; omega
  have hb : f.2.1 * f.2.1 = 0 → f.2.1 = 0 := fun h => by rcases Int.mul_eq_zero.1 h with h | h <;> exact h
  unfold dsk at hd
  have e4 : 4 * f.1 * f.2.2 = 4 * (f.1 * f.2.2) := by rw [Int.mul_assoc]
  have hp : 0 ≤ f.1 * f.2.2 := by omega
  have k1 : f.1 < 0 → f.2.2 ≤ 0 := fun h => by
    rcases Int.lt_or_le 0 f.2.2 with h' | h'
    · have := Int.mul_neg_of_neg_of_pos h h'; omega
    · exact h'
  have k2 : 0 < f.1 → 0 ≤ f.2.2 := fun h => by
    rcases Int.lt_or_le f.2.2 0 with h' | h'
    · have := Int.mul_neg_of_pos_of_neg h h'; omega
    · exact h'
  have k3 : f.1 = 0 → f.1 * f.2.2 = 0 := fun h => by rw [h]; simp
  refine ⟨?_, hg, ?_⟩
  · rw [hz]
    constructor
    · rintro ⟨h1, h2, h3⟩; omega
    · intro h
      have h1 : f.1 = 0 := by omega
      have h3 : f.2.2 = 0 := by omega
      have := k3 h1
      exact ⟨h1, hb (by omega), h3⟩
  · unfold dirF
    by_cases hs : f.1 + f.2.2 < 0
    · rw [if_pos hs, if_pos (by omega)]
    · rw [if_neg hs, if_neg (by omega)]
theorem flat_same {f g : T3} (hf : dsk f = 0) (hg : dsk g = 0) : (decide (cntF f = cntF g) && decide ((f.1 + f.2.2).sign = (g.1 + g.2.2).sign)) = decide (dirF f = dirF g) := by
  obtain ⟨a1, a2, a3⟩ := dir_flat hf
  obtain ⟨b1, b2, b3⟩ := dir_flat hg
  rw [a3, b3, Bool.eq_iff_iff]
  simp only [Bool.and_eq_true, decide_eq_true_eq]
  have s1 : ∀ x : Int, x.sign = if x < 0 then -1 else if x = 0 then 0 else 1 := fun x => by
    rcases Int.lt_trichotomy x 0 with h | h | h
    · rw [if_pos h, Int.sign_eq_neg_one_of_neg h]
    · rw [h]; rfl
    · rw [if_neg (by omega), if_neg (by omega), Int.sign_eq_one_of_pos h]
  rw [s1, s1]
  generalize f.1 + f.2.2 = x at *
  generalize g.1 + g.2.2 = y at *
  generalize cntF f = u at *
  generalize cntF g = v at *
  clear a3 b3 s1
  grind

/-! matrices and their fixed forms -/
abbrev trT (m : T4) : Int := m.1 + m.2.2.2
abbrev fxT (m : T4) : T3 := (m.2.2.1, m.2.2.2 - m.1, -m.2.1)
/-- A fixed form of a matrix with the trace t. -/
structure FX (t : Int) (f : T3) : Prop where
  a : -1000000 ≤ f.1 ∧ f.1 ≤ 1000000
  b : -2000000 ≤ f.2.1 ∧ f.2.1 ≤ 2000000
  c : -1000000 ≤ f.2.2 ∧ f.2.2 ≤ 1000000
  d : dsk f = 4 - t * t
theorem FX_of {p q r s : Int} (h : prp (p, q, r, s) = true) : FX (p + s) (r, s - p, -q) := by
  obtain ⟨h1, h2, h3, h4, h5⟩ := prp_iff.1 h
  refine ⟨h3, ⟨by dsimp only; omega, by dsimp only; omega⟩, ⟨by dsimp only; omega, by dsimp only; omega⟩, ?_⟩
  unfold dsk
  dsimp only
  grind
theorem FX.dsc {t : Int} {f : T3} (F : FX t f) : dsc f.1 f.2.1 f.2.2 = t * t - 4 := by
  have d := F.d
  obtain ⟨a, b, c, _⟩ := F
  unfold dsk at d
  have m1 := mul_bd (a := f.2.1) (b := f.2.1) (A := 2000000) (B := 2000000) b.1 b.2 b.1 b.2
  have m2 := mul_bd (a := 4 * f.1) (b := f.2.2) (A := 4000000) (B := 1000000) (by omega) (by omega) c.1 c.2
  unfold Go.Proofs.Ytdgfnmkiabjfnaa.dsc
  rw [wrap_small (n := 4 * f.1) (by omega) (by omega), wrap_small (n := f.2.1 * f.2.1) (by omega) (by omega), wrap_small (n := 4 * f.1 * f.2.2) (by omega) (by omega), wrap_small (by omega) (by omega)]
  omega
theorem FX.gd {t : Int} {f : T3} (F : FX t f) (h : 0 < f.1) (ht : dsk f = 3 ∨ dsk f = 4) : gd f := by
  obtain ⟨a, b, c, _⟩ := F
  unfold dsk at ht
  exact ⟨by omega, by omega, by omega, by omega, by omega, by omega⟩
theorem FX.neg {t : Int} {f : T3} (F : FX t f) : FX t (-f.1, -f.2.1, -f.2.2) := by
  have d := F.d
  obtain ⟨a, b, c, _⟩ := F
  refine ⟨⟨by dsimp only; omega, by dsimp only; omega⟩, ⟨by dsimp only; omega, by dsimp only; omega⟩, ⟨by dsimp only; omega, by dsimp only; omega⟩, ?_⟩
  unfold dsk at d ⊢
  dsimp only
  grind

end Go.Proofs.Ytdgfnmkiabjfnaa

/-! AreConjugate: the walks of its parts. -/
namespace Go.Proofs.Ytdgfnmkiabjfnaa
open Go.RowKit
set_option linter.unusedSimpArgs false
set_option linter.unusedVariables false
set_option maxRecDepth 100000
set_option maxHeartbeats 2000000

theorem neg_wrap {x : Int} (h1 : -2000000 ≤ x) (h2 : x ≤ 2000000) : wrap64 (-x) = -x := wrap_small (by omega) (by omega)

/-- What is known of a fixed form of a matrix with the trace -1, 0, 1. -/
structure EL (K : T3) (a b c : Int) : Prop where
  a0 : a ≠ 0
  p : 0 < a → Gd (a, b, c) ∧ (rdR (a, b, c)).1 = K
  n : a < 0 → Gd (-a, -b, -c) ∧ (rdR (-a, -b, -c)).1 = K
  d : dirF (a, b, c) = a.sign
theorem EL_of {t a b c : Int} (F : FX t (a, b, c)) {k : Int} (hk : k = 3 ∨ k = 4) (ht : 4 - t * t = k) : EL (1, k % 2, 1) a b c := by
  have hd : dsk (a, b, c) = k := F.d.trans ht
  obtain ⟨h0, h1⟩ := dir_small hd hk
  refine ⟨h0, fun h => ?_, fun h => ?_, h1⟩
  · have g := F.gd h (by omega)
    exact ⟨⟨g⟩, rdR_small g hd hk⟩
  · have hF : FX t (-a, -b, -c) := F.neg
    have hd' : dsk (-a, -b, -c) = k := hF.d.trans ht
    have g := hF.gd (by dsimp only; omega) (by omega)
    exact ⟨⟨g⟩, rdR_small g hd' hk⟩

theorem spec_moSame (t a b c d e f : Int) (h1 : -2 ≤ t) (h2 : t ≤ 2) (F : FX t (a, b, c)) (G : FX t (d, e, f)) : AFun Try.prog 37 [] [Fo a b c, Fo d e f] (Bo (decide (dirF (a, b, c) = dirF (d, e, f)))) [] [] := by
  have e1 := F.dsc
  have e2 := G.dsc
  have a1 := F.a
  have b1 := F.b
  have c1 := F.c
  have a2 := G.a
  have b2 := G.b
  have c2 := G.c
  dsimp only at e1 e2 a1 b1 c1 a2 b2 c2
  have hd := spec_foDisc a b c
  rw [e1] at hd
  by_cases ht : t = 2 ∨ t = -2
  · have hz : t * t - 4 = 0 := by rcases ht with rfl | rfl <;> rfl
    have k1 : dsk (a, b, c) = 0 := by rw [F.d]; omega
    have k2 : dsk (d, e, f) = 0 := by rw [G.d]; omega
    have hs := flat_same k1 k2
    have w1 : wrap64 (a + c) = a + c := wrap_small (by omega) (by omega)
    have w2 : wrap64 (d + f) = d + f := wrap_small (by omega) (by omega)
    unfold cntF at hs
    dsimp only at hs
    rw [← hs]
    rw [hz] at hd
    clear F G hs k1 k2 e1 e2
    refine afun_intro fn37 rfl rfl (by repeat' (first | exact trivial | (simp; done) | refine ⟨?_, ?_⟩)) ?_
    unfold ac37
    repeat' (first | ((with_reducible refine (?_ : (_ : Bool) = _)); (with_reducible rfl)) | ((with_reducible refine (?_ : (_ : Nat × Nat) = _)); (with_reducible rfl)) | (with_reducible refine leafRI ?_) | (with_reducible refine leafRB ?_) | (with_reducible refine leafI ?_) | (with_reducible refine leafB ?_) | ((with_reducible refine (?_ : (_ : Int) = _)); (with_reducible rfl)) | ((with_reducible refine (?_ : (_ : List (List Value)) = _)); (with_reducible rfl)) | ((with_reducible refine (?_ : (_ : Int) ≠ 0)); (first | assumption | omega | (simp; done) | (simp only [ints_len] at *; omega) | (simp; omega))) | ((with_reducible refine (?_ : (_ : Int) ≤ _)); (first | assumption | omega | (simp; done) | (simp only [ints_len] at *; omega) | (simp; omega))) | ((with_reducible refine (?_ : (_ : Int) < _)); (first | assumption | omega | (simp; done) | (simp only [ints_len] at *; omega) | (simp; omega))) | ((with_reducible refine (?_ : (_ : Nat) ≤ _)); (first | omega | (simp only [List.length_cons, List.length_nil]; omega) | (simp [ints]; done) | (simp; omega))) | ((with_reducible refine (?_ : (_ : Nat) < _)); (first | omega | (simp only [List.length_cons, List.length_nil]; omega) | (simp [ints]; done) | (simp; omega))) | ((with_reducible refine (?_ : (_ : Nat) = _)); (first | (with_reducible rfl) | (simp; done) | (simp only [fr_len]) | (simp only [ints_len]) | omega | (simp [*]; done))) | (refine And.intro ?_ ?_) | (intro h; first | (exact Bool.noConfusion h) | ((simp only [decide_eq_true_eq, decide_eq_false_iff_not, beq_iff_eq, bne_iff_ne, ne_eq, beq_eq_false_iff_ne, bne_eq_false_iff_eq, Bool.not_eq_true', Bool.not_eq_false', Bool.not_eq_true, Bool.not_eq_false, Int.not_le, Int.not_lt, Bool.and_eq_true, Bool.or_eq_true, Bool.or_eq_false_iff, Bool.and_eq_false_iff] at h); (try (first | (exact Bool.noConfusion h) | (exact (h trivial).elim)))) | skip) | ((refine (?_ : ACall _ _ _ _ _ _ _)); first | ((apply acall (hd)); (focus (repeat' (first | exact rfl | (refine And.intro ?_ ?_) | (simp only [ints_len]; done) | (simp; done) | omega)))) | ((apply acall (spec_foContent _ _ _ ?_ ?_ ?_ ?_ ?_ ?_)); (focus (repeat' (first | exact rfl | (refine And.intro ?_ ?_) | (simp only [ints_len]; done) | (simp; done) | omega)))) | ((apply acall (spec_l1Sign _)); (focus (repeat' (first | exact rfl | (refine And.intro ?_ ?_) | (simp only [ints_len]; done) | (simp; done) | omega))))) | ((with_reducible refine (?_ : chk _ _ = true)); kernel_rfl) | ((with_reducible refine (?_ : (_ : IntKind) = _)); (with_reducible rfl)) | ((with_reducible refine (?_ : eqC (C.pvw _ _ _) (C.pvw _ _ _))); exact rfl) | ((with_reducible refine (?_ : eqC (C.pv (Value.int IntKind.u64 _)) _)); exact rfl) | exact trivial)
    all_goals first | omega | (exact absurd ‹_› (by omega)) | skip
    all_goals first | (rw [w1, w2, decide_eq_true h, Bool.true_and]; rfl) | (simp_all; done) | skip
  · obtain ⟨k, hk, hkt⟩ : ∃ k : Int, (k = 3 ∨ k = 4) ∧ 4 - t * t = k := by
      rcases (show t = -1 ∨ t = 0 ∨ t = 1 by omega) with rfl | rfl | rfl
      · exact ⟨3, by omega, by omega⟩
      · exact ⟨4, by omega, by omega⟩
      · exact ⟨3, by omega, by omega⟩
    have E1 := EL_of F hk hkt
    have E2 := EL_of G hk hkt
    have p1 := E1.p
    have n1 := E1.n
    have p2 := E2.p
    have n2 := E2.n
    have z1 := E1.a0
    have z2 := E2.a0
    rw [E1.d, E2.d]
    have hlt : t * t - 4 < 0 := by omega
    clear F G e1 e2 E1 E2
    generalize (1, k % 2, 1) = K at *
    have wa := neg_wrap (x := a) (by omega) (by omega)
    have wb := neg_wrap (x := b) (by omega) (by omega)
    have wc := neg_wrap (x := c) (by omega) (by omega)
    have wd := neg_wrap (x := d) (by omega) (by omega)
    have we := neg_wrap (x := e) (by omega) (by omega)
    have wf := neg_wrap (x := f) (by omega) (by omega)
    have s1 : 0 < a ∧ a.sign = 1 ∨ a < 0 ∧ a.sign = -1 := by
      rcases Int.lt_trichotomy a 0 with h | h | h
      · exact .inr ⟨h, Int.sign_eq_neg_one_of_neg h⟩
      · exact absurd h z1
      · exact .inl ⟨h, Int.sign_eq_one_of_pos h⟩
    have s2 : 0 < d ∧ d.sign = 1 ∨ d < 0 ∧ d.sign = -1 := by
      rcases Int.lt_trichotomy d 0 with h | h | h
      · exact .inr ⟨h, Int.sign_eq_neg_one_of_neg h⟩
      · exact absurd h z2
      · exact .inl ⟨h, Int.sign_eq_one_of_pos h⟩
    rcases s1 with ⟨s1, s1'⟩ | ⟨s1, s1'⟩
    · rcases s2 with ⟨s2, s2'⟩ | ⟨s2, s2'⟩
      · obtain ⟨q1, q2⟩ := p1 s1
        obtain ⟨q3, q4⟩ := p2 s2
        rw [s1', s2']
        clear p1 p2 n1 n2
        refine afun_intro fn37 rfl rfl (by repeat' (first | exact trivial | (simp; done) | refine ⟨?_, ?_⟩)) ?_
        unfold ac37
        repeat' (first | ((with_reducible refine (?_ : (_ : Bool) = _)); (with_reducible rfl)) | ((with_reducible refine (?_ : (_ : Nat × Nat) = _)); (with_reducible rfl)) | (with_reducible refine leafRI ?_) | (with_reducible refine leafRB ?_) | (with_reducible refine leafI ?_) | (with_reducible refine leafB ?_) | ((with_reducible refine (?_ : (_ : Int) = _)); (with_reducible rfl)) | ((with_reducible refine (?_ : (_ : List (List Value)) = _)); (with_reducible rfl)) | ((with_reducible refine (?_ : (_ : Int) ≠ 0)); (first | assumption | omega | (simp; done) | (simp only [ints_len] at *; omega) | (simp; omega))) | ((with_reducible refine (?_ : (_ : Int) ≤ _)); (first | assumption | omega | (simp; done) | (simp only [ints_len] at *; omega) | (simp; omega))) | ((with_reducible refine (?_ : (_ : Int) < _)); (first | assumption | omega | (simp; done) | (simp only [ints_len] at *; omega) | (simp; omega))) | ((with_reducible refine (?_ : (_ : Nat) ≤ _)); (first | omega | (simp only [List.length_cons, List.length_nil]; omega) | (simp [ints]; done) | (simp; omega))) | ((with_reducible refine (?_ : (_ : Nat) < _)); (first | omega | (simp only [List.length_cons, List.length_nil]; omega) | (simp [ints]; done) | (simp; omega))) | ((with_reducible refine (?_ : (_ : Nat) = _)); (first | (with_reducible rfl) | (simp; done) | (simp only [fr_len]) | (simp only [ints_len]) | omega | (simp [*]; done))) | (refine And.intro ?_ ?_) | (intro h; first | (exact Bool.noConfusion h) | ((simp only [decide_eq_true_eq, decide_eq_false_iff_not, beq_iff_eq, bne_iff_ne, ne_eq, beq_eq_false_iff_ne, bne_eq_false_iff_eq, Bool.not_eq_true', Bool.not_eq_false', Bool.not_eq_true, Bool.not_eq_false, Int.not_le, Int.not_lt, Bool.and_eq_true, Bool.or_eq_true, Bool.or_eq_false_iff, Bool.and_eq_false_iff] at h); (try (first | (exact Bool.noConfusion h) | (exact (h trivial).elim)))) | skip) | ((refine (?_ : ACall _ _ _ _ _ _ _)); first | ((apply acall (hd)); (focus (repeat' (first | exact rfl | (refine And.intro ?_ ?_) | (simp only [ints_len]; done) | (simp; done) | omega)))) | ((apply acall (spec_l1Sign _)); (focus (repeat' (first | exact rfl | (refine And.intro ?_ ?_) | (simp only [ints_len]; done) | (simp; done) | omega)))) | ((apply acall (spec_reClass _ _ _ ?_)); (focus (repeat' (first | exact rfl | (refine And.intro ?_ ?_) | (simp only [ints_len]; done) | (simp; done) | omega))))) | ((with_reducible refine (?_ : chk _ _ = true)); kernel_rfl) | ((with_reducible refine (?_ : (_ : IntKind) = _)); (with_reducible rfl)) | ((with_reducible refine (?_ : eqC (C.pvw _ _ _) (C.pvw _ _ _))); exact rfl) | ((with_reducible refine (?_ : eqC (C.pv (Value.int IntKind.u64 _)) _)); exact rfl) | exact trivial)
        all_goals first | assumption | omega | (simp_all; done) | skip
      · rw [s1', s2']
        clear p1 p2 n1 n2
        refine afun_intro fn37 rfl rfl (by repeat' (first | exact trivial | (simp; done) | refine ⟨?_, ?_⟩)) ?_
        unfold ac37
        repeat' (first | ((with_reducible refine (?_ : (_ : Bool) = _)); (with_reducible rfl)) | ((with_reducible refine (?_ : (_ : Nat × Nat) = _)); (with_reducible rfl)) | (with_reducible refine leafRI ?_) | (with_reducible refine leafRB ?_) | (with_reducible refine leafI ?_) | (with_reducible refine leafB ?_) | ((with_reducible refine (?_ : (_ : Int) = _)); (with_reducible rfl)) | ((with_reducible refine (?_ : (_ : List (List Value)) = _)); (with_reducible rfl)) | ((with_reducible refine (?_ : (_ : Int) ≠ 0)); (first | assumption | omega | (simp; done) | (simp only [ints_len] at *; omega) | (simp; omega))) | ((with_reducible refine (?_ : (_ : Int) ≤ _)); (first | assumption | omega | (simp; done) | (simp only [ints_len] at *; omega) | (simp; omega))) | ((with_reducible refine (?_ : (_ : Int) < _)); (first | assumption | omega | (simp; done) | (simp only [ints_len] at *; omega) | (simp; omega))) | ((with_reducible refine (?_ : (_ : Nat) ≤ _)); (first | omega | (simp only [List.length_cons, List.length_nil]; omega) | (simp [ints]; done) | (simp; omega))) | ((with_reducible refine (?_ : (_ : Nat) < _)); (first | omega | (simp only [List.length_cons, List.length_nil]; omega) | (simp [ints]; done) | (simp; omega))) | ((with_reducible refine (?_ : (_ : Nat) = _)); (first | (with_reducible rfl) | (simp; done) | (simp only [fr_len]) | (simp only [ints_len]) | omega | (simp [*]; done))) | (refine And.intro ?_ ?_) | (intro h; first | (exact Bool.noConfusion h) | ((simp only [decide_eq_true_eq, decide_eq_false_iff_not, beq_iff_eq, bne_iff_ne, ne_eq, beq_eq_false_iff_ne, bne_eq_false_iff_eq, Bool.not_eq_true', Bool.not_eq_false', Bool.not_eq_true, Bool.not_eq_false, Int.not_le, Int.not_lt, Bool.and_eq_true, Bool.or_eq_true, Bool.or_eq_false_iff, Bool.and_eq_false_iff] at h); (try (first | (exact Bool.noConfusion h) | (exact (h trivial).elim)))) | skip) | ((refine (?_ : ACall _ _ _ _ _ _ _)); first | ((apply acall (hd)); (focus (repeat' (first | exact rfl | (refine And.intro ?_ ?_) | (simp only [ints_len]; done) | (simp; done) | omega)))) | ((apply acall (spec_l1Sign _)); (focus (repeat' (first | exact rfl | (refine And.intro ?_ ?_) | (simp only [ints_len]; done) | (simp; done) | omega)))) | ((apply acall (spec_reClass _ _ _ ?_)); (focus (repeat' (first | exact rfl | (refine And.intro ?_ ?_) | (simp only [ints_len]; done) | (simp; done) | omega))))) | ((with_reducible refine (?_ : chk _ _ = true)); kernel_rfl) | ((with_reducible refine (?_ : (_ : IntKind) = _)); (with_reducible rfl)) | ((with_reducible refine (?_ : eqC (C.pvw _ _ _) (C.pvw _ _ _))); exact rfl) | ((with_reducible refine (?_ : eqC (C.pv (Value.int IntKind.u64 _)) _)); exact rfl) | exact trivial)
        all_goals first | assumption | omega | (exfalso; simp_all; done) | (simp_all; done) | skip
    · rcases s2 with ⟨s2, s2'⟩ | ⟨s2, s2'⟩
      · rw [s1', s2']
        clear p1 p2 n1 n2
        refine afun_intro fn37 rfl rfl (by repeat' (first | exact trivial | (simp; done) | refine ⟨?_, ?_⟩)) ?_
        unfold ac37
        repeat' (first | ((with_reducible refine (?_ : (_ : Bool) = _)); (with_reducible rfl)) | ((with_reducible refine (?_ : (_ : Nat × Nat) = _)); (with_reducible rfl)) | (with_reducible refine leafRI ?_) | (with_reducible refine leafRB ?_) | (with_reducible refine leafI ?_) | (with_reducible refine leafB ?_) | ((with_reducible refine (?_ : (_ : Int) = _)); (with_reducible rfl)) | ((with_reducible refine (?_ : (_ : List (List Value)) = _)); (with_reducible rfl)) | ((with_reducible refine (?_ : (_ : Int) ≠ 0)); (first | assumption | omega | (simp; done) | (simp only [ints_len] at *; omega) | (simp; omega))) | ((with_reducible refine (?_ : (_ : Int) ≤ _)); (first | assumption | omega | (simp; done) | (simp only [ints_len] at *; omega) | (simp; omega))) | ((with_reducible refine (?_ : (_ : Int) < _)); (first | assumption | omega | (simp; done) | (simp only [ints_len] at *; omega) | (simp; omega))) | ((with_reducible refine (?_ : (_ : Nat) ≤ _)); (first | omega | (simp only [List.length_cons, List.length_nil]; omega) | (simp [ints]; done) | (simp; omega))) | ((with_reducible refine (?_ : (_ : Nat) < _)); (first | omega | (simp only [List.length_cons, List.length_nil]; omega) | (simp [ints]; done) | (simp; omega))) | ((with_reducible refine (?_ : (_ : Nat) = _)); (first | (with_reducible rfl) | (simp; done) | (simp only [fr_len]) | (simp only [ints_len]) | omega | (simp [*]; done))) | (refine And.intro ?_ ?_) | (intro h; first | (exact Bool.noConfusion h) | ((simp only [decide_eq_true_eq, decide_eq_false_iff_not, beq_iff_eq, bne_iff_ne, ne_eq, beq_eq_false_iff_ne, bne_eq_false_iff_eq, Bool.not_eq_true', Bool.not_eq_false', Bool.not_eq_true, Bool.not_eq_false, Int.not_le, Int.not_lt, Bool.and_eq_true, Bool.or_eq_true, Bool.or_eq_false_iff, Bool.and_eq_false_iff] at h); (try (first | (exact Bool.noConfusion h) | (exact (h trivial).elim)))) | skip) | ((refine (?_ : ACall _ _ _ _ _ _ _)); first | ((apply acall (hd)); (focus (repeat' (first | exact rfl | (refine And.intro ?_ ?_) | (simp only [ints_len]; done) | (simp; done) | omega)))) | ((apply acall (spec_l1Sign _)); (focus (repeat' (first | exact rfl | (refine And.intro ?_ ?_) | (simp only [ints_len]; done) | (simp; done) | omega)))) | ((apply acall (spec_reClass _ _ _ ?_)); (focus (repeat' (first | exact rfl | (refine And.intro ?_ ?_) | (simp only [ints_len]; done) | (simp; done) | omega))))) | ((with_reducible refine (?_ : chk _ _ = true)); kernel_rfl) | ((with_reducible refine (?_ : (_ : IntKind) = _)); (with_reducible rfl)) | ((with_reducible refine (?_ : eqC (C.pvw _ _ _) (C.pvw _ _ _))); exact rfl) | ((with_reducible refine (?_ : eqC (C.pv (Value.int IntKind.u64 _)) _)); exact rfl) | exact trivial)
        all_goals first | assumption | omega | (exfalso; simp_all; done) | (simp_all; done) | skip
      · obtain ⟨q1, q2⟩ := n1 s1
        obtain ⟨q3, q4⟩ := n2 s2
        rw [s1', s2']
        clear p1 p2 n1 n2
        rw [← wa, ← wb, ← wc] at q1 q2
        rw [← wd, ← we, ← wf] at q3 q4
        clear wa wb wc wd we wf
        refine afun_intro fn37 rfl rfl (by repeat' (first | exact trivial | (simp; done) | refine ⟨?_, ?_⟩)) ?_
        unfold ac37
        repeat' (first | ((with_reducible refine (?_ : (_ : Bool) = _)); (with_reducible rfl)) | ((with_reducible refine (?_ : (_ : Nat × Nat) = _)); (with_reducible rfl)) | (with_reducible refine leafRI ?_) | (with_reducible refine leafRB ?_) | (with_reducible refine leafI ?_) | (with_reducible refine leafB ?_) | ((with_reducible refine (?_ : (_ : Int) = _)); (with_reducible rfl)) | ((with_reducible refine (?_ : (_ : List (List Value)) = _)); (with_reducible rfl)) | ((with_reducible refine (?_ : (_ : Int) ≠ 0)); (first | assumption | omega | (simp; done) | (simp only [ints_len] at *; omega) | (simp; omega))) | ((with_reducible refine (?_ : (_ : Int) ≤ _)); (first | assumption | omega | (simp; done) | (simp only [ints_len] at *; omega) | (simp; omega))) | ((with_reducible refine (?_ : (_ : Int) < _)); (first | assumption | omega | (simp; done) | (simp only [ints_len] at *; omega) | (simp; omega))) | ((with_reducible refine (?_ : (_ : Nat) ≤ _)); (first | omega | (simp only [List.length_cons, List.length_nil]; omega) | (simp [ints]; done) | (simp; omega))) | ((with_reducible refine (?_ : (_ : Nat) < _)); (first | omega | (simp only [List.length_cons, List.length_nil]; omega) | (simp [ints]; done) | (simp; omega))) | ((with_reducible refine (?_ : (_ : Nat) = _)); (first | (with_reducible rfl) | (simp; done) | (simp only [fr_len]) | (simp only [ints_len]) | omega | (simp [*]; done))) | (refine And.intro ?_ ?_) | (intro h; first | (exact Bool.noConfusion h) | ((simp only [decide_eq_true_eq, decide_eq_false_iff_not, beq_iff_eq, bne_iff_ne, ne_eq, beq_eq_false_iff_ne, bne_eq_false_iff_eq, Bool.not_eq_true', Bool.not_eq_false', Bool.not_eq_true, Bool.not_eq_false, Int.not_le, Int.not_lt, Bool.and_eq_true, Bool.or_eq_true, Bool.or_eq_false_iff, Bool.and_eq_false_iff] at h); (try (first | (exact Bool.noConfusion h) | (exact (h trivial).elim)))) | skip) | ((refine (?_ : ACall _ _ _ _ _ _ _)); first | ((apply acall (hd)); (focus (repeat' (first | exact rfl | (refine And.intro ?_ ?_) | (simp only [ints_len]; done) | (simp; done) | omega)))) | ((apply acall (spec_l1Sign _)); (focus (repeat' (first | exact rfl | (refine And.intro ?_ ?_) | (simp only [ints_len]; done) | (simp; done) | omega)))) | ((apply acall (spec_reClass _ _ _ ?_)); (focus (repeat' (first | exact rfl | (refine And.intro ?_ ?_) | (simp only [ints_len]; done) | (simp; done) | omega))))) | ((with_reducible refine (?_ : chk _ _ = true)); kernel_rfl) | ((with_reducible refine (?_ : (_ : IntKind) = _)); (with_reducible rfl)) | ((with_reducible refine (?_ : eqC (C.pvw _ _ _) (C.pvw _ _ _))); exact rfl) | ((with_reducible refine (?_ : eqC (C.pv (Value.int IntKind.u64 _)) _)); exact rfl) | exact trivial)
        all_goals first | assumption | omega | (simp_all; done) | skip

theorem nat_le_dvd {g x : Int} (h : g ∣ x) (h0 : x ≠ 0) : g.natAbs ≤ x.natAbs := Nat.le_of_dvd (by omega) (Int.natAbs_dvd_natAbs.2 h)
theorem impl_direction (p q r s : Int) (h : prp (p, q, r, s) = true) : AFun Try.prog 31 [] [Ma p q r s] (I (dirF (r, s - p, -q))) [] [] := by
  obtain ⟨h1, h2, h3, h4, h5⟩ := prp_iff.1 h
  have w1 : wrap64 (s - p) = s - p := wrap_small (by omega) (by omega)
  have w2 : wrap64 (-q) = -q := wrap_small (by omega) (by omega)
  have hc := impl_content r (s - p) (-q) (by omega) (by omega) (by omega) (by omega) (by omega) (by omega)
  have hz : 0 ≤ cntF (r, s - p, -q) ∧ cntF (r, s - p, -q) ≤ 2000000 := by
    have hz := cnt_zero (f := (r, s - p, -q))
    have hdv := cnt_dvd (r, s - p, -q)
    dsimp only at hz hdv
    have h0 : 0 ≤ cntF (r, s - p, -q) := by unfold cntF; omega
    refine ⟨h0, ?_⟩
    generalize cntF (r, s - p, -q) = g at *
    by_cases hr : r = 0
    · by_cases hs : s - p = 0
      · by_cases hq : -q = 0
        · rw [hz.2 ⟨hr, hs, hq⟩]; omega
        · have := nat_le_dvd hdv.2.2 hq; omega
      · have := nat_le_dvd hdv.2.1 hs; omega
    · have := nat_le_dvd hdv.1 hr; omega
  have w3 : wrap64 (-cntF (r, s - p, -q)) = -cntF (r, s - p, -q) := wrap_small (by omega) (by omega)
  have hcf : cntF (r, s - p, -q) = ((Int.gcd ((Int.gcd r (s - p) : Nat) : Int) (-q) : Nat) : Int) := rfl
  rw [← hcf] at hc
  unfold dirF
  dsimp only
  generalize cntF (r, s - p, -q) = g at *
  clear hcf
  rw [← w1, ← w2] at hc
  refine afun_intro fn31 rfl rfl (by repeat' (first | exact trivial | (simp; done) | refine ⟨?_, ?_⟩)) ?_
  unfold ac31
  repeat' (first | ((with_reducible refine (?_ : (_ : Bool) = _)); (with_reducible rfl)) | ((with_reducible refine (?_ : (_ : Nat × Nat) = _)); (with_reducible rfl)) | (with_reducible refine leafRI ?_) | (with_reducible refine leafRB ?_) | (with_reducible refine leafI ?_) | (with_reducible refine leafB ?_) | ((with_reducible refine (?_ : (_ : Int) = _)); (with_reducible rfl)) | ((with_reducible refine (?_ : (_ : List (List Value)) = _)); (with_reducible rfl)) | ((with_reducible refine (?_ : (_ : Int) ≠ 0)); (first | assumption | omega | (simp; done) | (simp only [ints_len] at *; omega) | (simp; omega))) | ((with_reducible refine (?_ : (_ : Int) ≤ _)); (first | assumption | omega | (simp; done) | (simp only [ints_len] at *; omega) | (simp; omega))) | ((with_reducible refine (?_ : (_ : Int) < _)); (first | assumption | omega | (simp; done) | (simp only [ints_len] at *; omega) | (simp; omega))) | ((with_reducible refine (?_ : (_ : Nat) ≤ _)); (first | omega | (simp only [List.length_cons, List.length_nil]; omega) | (simp [ints]; done) | (simp; omega))) | ((with_reducible refine (?_ : (_ : Nat) < _)); (first | omega | (simp only [List.length_cons, List.length_nil]; omega) | (simp [ints]; done) | (simp; omega))) | ((with_reducible refine (?_ : (_ : Nat) = _)); (first | (with_reducible rfl) | (simp; done) | (simp only [fr_len]) | (simp only [ints_len]) | omega | (simp [*]; done))) | (refine And.intro ?_ ?_) | (intro h; first | (exact Bool.noConfusion h) | ((simp only [decide_eq_true_eq, decide_eq_false_iff_not, beq_iff_eq, bne_iff_ne, ne_eq, beq_eq_false_iff_ne, bne_eq_false_iff_eq, Bool.not_eq_true', Bool.not_eq_false', Bool.not_eq_true, Bool.not_eq_false, Int.not_le, Int.not_lt, Bool.and_eq_true, Bool.or_eq_true, Bool.or_eq_false_iff, Bool.and_eq_false_iff] at h); (try (first | (exact Bool.noConfusion h) | (exact (h trivial).elim)))) | skip) | ((refine (?_ : ACall _ _ _ _ _ _ _)); first | ((apply acall (hc)); (focus (repeat' (first | exact rfl | (refine And.intro ?_ ?_) | (simp only [ints_len]; done) | (simp; done) | omega))))) | ((with_reducible refine (?_ : chk _ _ = true)); kernel_rfl) | ((with_reducible refine (?_ : (_ : IntKind) = _)); (with_reducible rfl)) | ((with_reducible refine (?_ : eqC (C.pvw _ _ _) (C.pvw _ _ _))); exact rfl) | ((with_reducible refine (?_ : eqC (C.pv (Value.int IntKind.u64 _)) _)); exact rfl) | exact trivial)
  all_goals (try rw [w2] at h)
  all_goals (split <;> first | rfl | exact w3 | (exfalso; omega))

theorem spec_moForm (p q r s : Int) : AFun Try.prog 34 [] [Ma p q r s] (Fo r (wrap64 (s - p)) (wrap64 (-q))) [] [] := by
  refine afun_intro fn34 rfl rfl (by repeat' (first | exact trivial | (simp; done) | refine ⟨?_, ?_⟩)) ?_
  unfold ac34
  repeat' (first | ((with_reducible refine (?_ : (_ : Bool) = _)); (with_reducible rfl)) | ((with_reducible refine (?_ : (_ : Nat × Nat) = _)); (with_reducible rfl)) | (with_reducible refine leafRI ?_) | (with_reducible refine leafRB ?_) | (with_reducible refine leafI ?_) | (with_reducible refine leafB ?_) | ((with_reducible refine (?_ : (_ : Int) = _)); (with_reducible rfl)) | ((with_reducible refine (?_ : (_ : List (List Value)) = _)); (with_reducible rfl)) | ((with_reducible refine (?_ : (_ : Int) ≠ 0)); (first | assumption | omega | (simp; done) | (simp only [ints_len] at *; omega) | (simp; omega))) | ((with_reducible refine (?_ : (_ : Int) ≤ _)); (first | assumption | omega | (simp; done) | (simp only [ints_len] at *; omega) | (simp; omega))) | ((with_reducible refine (?_ : (_ : Int) < _)); (first | assumption | omega | (simp; done) | (simp only [ints_len] at *; omega) | (simp; omega))) | ((with_reducible refine (?_ : (_ : Nat) ≤ _)); (first | omega | (simp only [List.length_cons, List.length_nil]; omega) | (simp [ints]; done) | (simp; omega))) | ((with_reducible refine (?_ : (_ : Nat) < _)); (first | omega | (simp only [List.length_cons, List.length_nil]; omega) | (simp [ints]; done) | (simp; omega))) | ((with_reducible refine (?_ : (_ : Nat) = _)); (first | (with_reducible rfl) | (simp; done) | (simp only [fr_len]) | (simp only [ints_len]) | omega | (simp [*]; done))) | (refine And.intro ?_ ?_) | (intro h; first | (exact Bool.noConfusion h) | ((simp only [decide_eq_true_eq, decide_eq_false_iff_not, beq_iff_eq, bne_iff_ne, ne_eq, beq_eq_false_iff_ne, bne_eq_false_iff_eq, Bool.not_eq_true', Bool.not_eq_false', Bool.not_eq_true, Bool.not_eq_false, Int.not_le, Int.not_lt, Bool.and_eq_true, Bool.or_eq_true, Bool.or_eq_false_iff, Bool.and_eq_false_iff] at h); (try (first | (exact Bool.noConfusion h) | (exact (h trivial).elim)))) | skip) | ((with_reducible refine (?_ : chk _ _ = true)); kernel_rfl) | ((with_reducible refine (?_ : (_ : IntKind) = _)); (with_reducible rfl)) | ((with_reducible refine (?_ : eqC (C.pvw _ _ _) (C.pvw _ _ _))); exact rfl) | ((with_reducible refine (?_ : eqC (C.pv (Value.int IntKind.u64 _)) _)); exact rfl) | exact trivial)
  all_goals rfl

theorem impl_FixedForm (p q r s : Int) (h : prp (p, q, r, s) = true) : AFun Try.prog 14 [] [Ma p q r s] (.tup [(true, c3 (if num r && num (s - p) && num (-q) then (r, s - p, -q) else z3)), (false, [cB (num r && num (s - p) && num (-q))])]) [] [] := by
  obtain ⟨h1, h2, h3, h4, h5⟩ := prp_iff.1 h
  have w1 : wrap64 (s - p) = s - p := wrap_small (by omega) (by omega)
  have w2 : wrap64 (-q) = -q := wrap_small (by omega) (by omega)
  rw [← w1, ← w2]
  unfold z3
  refine afun_intro fn14 rfl rfl (by repeat' (first | exact trivial | (simp; done) | refine ⟨?_, ?_⟩)) ?_
  unfold ac14
  repeat' (first | ((with_reducible refine (?_ : (_ : Bool) = _)); (with_reducible rfl)) | ((with_reducible refine (?_ : (_ : Nat × Nat) = _)); (with_reducible rfl)) | (with_reducible refine leafRI ?_) | (with_reducible refine leafRB ?_) | (with_reducible refine leafI ?_) | (with_reducible refine leafB ?_) | ((with_reducible refine (?_ : (_ : Int) = _)); (with_reducible rfl)) | ((with_reducible refine (?_ : (_ : List (List Value)) = _)); (with_reducible rfl)) | ((with_reducible refine (?_ : (_ : Int) ≠ 0)); (first | assumption | omega | (simp; done) | (simp only [ints_len] at *; omega) | (simp; omega))) | ((with_reducible refine (?_ : (_ : Int) ≤ _)); (first | assumption | omega | (simp; done) | (simp only [ints_len] at *; omega) | (simp; omega))) | ((with_reducible refine (?_ : (_ : Int) < _)); (first | assumption | omega | (simp; done) | (simp only [ints_len] at *; omega) | (simp; omega))) | ((with_reducible refine (?_ : (_ : Nat) ≤ _)); (first | omega | (simp only [List.length_cons, List.length_nil]; omega) | (simp [ints]; done) | (simp; omega))) | ((with_reducible refine (?_ : (_ : Nat) < _)); (first | omega | (simp only [List.length_cons, List.length_nil]; omega) | (simp [ints]; done) | (simp; omega))) | ((with_reducible refine (?_ : (_ : Nat) = _)); (first | (with_reducible rfl) | (simp; done) | (simp only [fr_len]) | (simp only [ints_len]) | omega | (simp [*]; done))) | (refine And.intro ?_ ?_) | (intro h; first | (exact Bool.noConfusion h) | ((simp only [decide_eq_true_eq, decide_eq_false_iff_not, beq_iff_eq, bne_iff_ne, ne_eq, beq_eq_false_iff_ne, bne_eq_false_iff_eq, Bool.not_eq_true', Bool.not_eq_false', Bool.not_eq_true, Bool.not_eq_false, Int.not_le, Int.not_lt, Bool.and_eq_true, Bool.or_eq_true, Bool.or_eq_false_iff, Bool.and_eq_false_iff] at h); (try (first | (exact Bool.noConfusion h) | (exact (h trivial).elim)))) | skip) | ((refine (?_ : ACall _ _ _ _ _ _ _)); first | ((apply acall (impl_isProper _ _ _ _)); (focus (repeat' (first | exact rfl | (refine And.intro ?_ ?_) | (simp only [ints_len]; done) | (simp; done) | omega)))) | ((apply acall (impl_IsForm _ _ _)); (focus (repeat' (first | exact rfl | (refine And.intro ?_ ?_) | (simp only [ints_len]; done) | (simp; done) | omega))))) | ((with_reducible refine (?_ : chk _ _ = true)); kernel_rfl) | ((with_reducible refine (?_ : (_ : IntKind) = _)); (with_reducible rfl)) | ((with_reducible refine (?_ : eqC (C.pvw _ _ _) (C.pvw _ _ _))); exact rfl) | ((with_reducible refine (?_ : eqC (C.pv (Value.int IntKind.u64 _)) _)); exact rfl) | exact trivial)
  all_goals first | (symm; simp only [Bool.and_eq_false_iff]; assumption) | (simp_all; done) | (split <;> first | rfl | (exfalso; grind)) | skip

/-- What AreConjugate answers. -/
def fkT (m : T4) : Bool := num m.2.2.1 && num (m.2.2.2 - m.1) && num (-m.2.1)
def acG (m n : T4) : Bool := prp m && prp n && decide ((trT m).natAbs ≤ 31) && decide ((trT n).natAbs ≤ 31)
noncomputable def acR (m n : T4) : Bool × Bool := if acG m n then (if trT m = trT n then (if (trT m).natAbs ≤ 2 then (decide (dirF (fxT m) = dirF (fxT n)), true) else if fkT m && fkT n then (scE (fxT m) (fxT n), scB (fxT m) (fxT n)) else (false, false)) else (false, true)) else (false, false)

end Go.Proofs.Ytdgfnmkiabjfnaa

/-! AreConjugate. -/
namespace Go.Proofs.Ytdgfnmkiabjfnaa
open Go.RowKit
set_option linter.unusedSimpArgs false
set_option linter.unusedVariables false
set_option maxRecDepth 100000
set_option maxHeartbeats 2000000

theorem spec_AreConjugate (p q r s a b c d : Int) : AFun Try.prog 11 [] [Ma p q r s, Ma a b c d] (PBB (acR (p, q, r, s) (a, b, c, d)).1 (acR (p, q, r, s) (a, b, c, d)).2) [] [] := by
  by_cases hp : prp (p, q, r, s) = true ∧ prp (a, b, c, d) = true
  · obtain ⟨hp1, hp2⟩ := hp
    have F := FX_of hp1
    have G := FX_of hp2
    obtain ⟨h1, h2, h3, h4, h5⟩ := prp_iff.1 hp1
    obtain ⟨k1, k2, k3, k4, k5⟩ := prp_iff.1 hp2
    have w1 : wrap64 (s - p) = s - p := wrap_small (by omega) (by omega)
    have w2 : wrap64 (-q) = -q := wrap_small (by omega) (by omega)
    have w3 : wrap64 (d - a) = d - a := wrap_small (by omega) (by omega)
    have w4 : wrap64 (-b) = -b := wrap_small (by omega) (by omega)
    have w5 : wrap64 (p + s) = p + s := wrap_small (by omega) (by omega)
    have w6 : wrap64 (a + d) = a + d := wrap_small (by omega) (by omega)
    have hR : acR (p, q, r, s) (a, b, c, d) = if ((wrap64 (p + s)).natAbs : Int) ≤ 31 ∧ ((wrap64 (a + d)).natAbs : Int) ≤ 31 then (if wrap64 (p + s) = wrap64 (a + d) then (if ((wrap64 (p + s)).natAbs : Int) ≤ 2 then (decide (dirF (r, s - p, -q) = dirF (c, d - a, -b)), true) else if ((num r = true ∧ num (wrap64 (s - p)) = true) ∧ num (wrap64 (-q)) = true) ∧ (num c = true ∧ num (wrap64 (d - a)) = true) ∧ num (wrap64 (-b)) = true then (scE (r, s - p, -q) (c, d - a, -b), scB (r, s - p, -q) (c, d - a, -b)) else (false, false)) else (false, true)) else (false, false) := by
      rw [w1, w2, w3, w4, w5, w6]
      have c1 : ∀ x : Int, ((x.natAbs : Int) ≤ 31) = (x.natAbs ≤ 31) := fun x => by apply propext; omega
      have c2 : ∀ x : Int, ((x.natAbs : Int) ≤ 2) = (x.natAbs ≤ 2) := fun x => by apply propext; omega
      simp only [c1, c2, acR, acG, hp1, hp2, fkT, Bool.true_and, Bool.and_eq_true, decide_eq_true_eq]
    have hs : Unit → wrap64 (p + s) = wrap64 (a + d) → (wrap64 (p + s)).natAbs ≤ 2 → AFun Try.prog 37 [] [Fo r (wrap64 (s - p)) (wrap64 (-q)), Fo c (wrap64 (d - a)) (wrap64 (-b))] (Bo (decide (dirF (r, s - p, -q) = dirF (c, d - a, -b)))) [] [] := fun _ e hh => by
      rw [w5, w6] at e
      rw [w5] at hh
      rw [w1, w2, w3, w4]
      exact spec_moSame (p + s) _ _ _ _ _ _ (by omega) (by omega) F (by rw [e]; exact G)
    have hc : Unit → wrap64 (p + s) = wrap64 (a + d) → AFun Try.prog 36 [] [Fo r (wrap64 (s - p)) (wrap64 (-q)), Fo c (wrap64 (d - a)) (wrap64 (-b))] (PBB (scE (r, s - p, -q) (c, d - a, -b)) (scB (r, s - p, -q) (c, d - a, -b))) [] [] := fun _ e => by
      rw [w5, w6] at e
      rw [w1, w2, w3, w4]
      exact spec_SameCycle _ _ _ _ _ _ (by rw [show dsc r (s - p) (-q) = (p + s) * (p + s) - 4 from F.dsc, show dsc c (d - a) (-b) = (a + d) * (a + d) - 4 from G.dsc, e])
    clear F G h5 k5
    generalize decide (dirF (r, s - p, -q) = dirF (c, d - a, -b)) = V at *
    generalize scE (r, s - p, -q) (c, d - a, -b) = E at *
    generalize scB (r, s - p, -q) (c, d - a, -b) = B at *
    have hw1 : (wrap64 (p + s)).natAbs ≤ 2000000 := by rw [w5]; omega
    have hw2 : (wrap64 (a + d)).natAbs ≤ 2000000 := by rw [w6]; omega
    clear w1 w2 w3 w4 w5 w6 h1 h2 h3 h4 k1 k2 k3 k4
    generalize acR (p, q, r, s) (a, b, c, d) = A at *
    have R1 : Unit → 31 < ((wrap64 (p + s)).natAbs : Int) → A = (false, false) := fun _ h => by rw [hR, if_neg (fun g => Int.not_lt.2 g.1 h)]
    have R2 : Unit → 31 < ((wrap64 (a + d)).natAbs : Int) → A = (false, false) := fun _ h => by rw [hR, if_neg (fun g => Int.not_lt.2 g.2 h)]
    have R3 : Unit → ((wrap64 (p + s)).natAbs : Int) ≤ 31 → ((wrap64 (a + d)).natAbs : Int) ≤ 31 → ¬ wrap64 (p + s) = wrap64 (a + d) → A = (false, true) := fun _ h1 h2 h => by rw [hR, if_pos ⟨h1, h2⟩, if_neg h]
    have R4 : Unit → ((wrap64 (p + s)).natAbs : Int) ≤ 31 → ((wrap64 (a + d)).natAbs : Int) ≤ 31 → wrap64 (p + s) = wrap64 (a + d) → 2 < ((wrap64 (p + s)).natAbs : Int) → ((num r = false ∨ num (wrap64 (s - p)) = false) ∨ num (wrap64 (-q)) = false) → A = (false, false) := fun _ h1 h2 h3 h4 h => by
      rw [hR, if_pos ⟨h1, h2⟩, if_pos h3, if_neg (Int.not_le.2 h4), if_neg]
      rintro ⟨⟨⟨g1, g2⟩, g3⟩, _⟩
      simp only [g1, g2, g3, reduceCtorEq, or_self] at h
    have R5 : Unit → ((wrap64 (p + s)).natAbs : Int) ≤ 31 → ((wrap64 (a + d)).natAbs : Int) ≤ 31 → wrap64 (p + s) = wrap64 (a + d) → 2 < ((wrap64 (p + s)).natAbs : Int) → ((num c = false ∨ num (wrap64 (d - a)) = false) ∨ num (wrap64 (-b)) = false) → A = (false, false) := fun _ h1 h2 h3 h4 h => by
      rw [hR, if_pos ⟨h1, h2⟩, if_pos h3, if_neg (Int.not_le.2 h4), if_neg]
      rintro ⟨_, ⟨⟨g1, g2⟩, g3⟩⟩
      simp only [g1, g2, g3, reduceCtorEq, or_self] at h
    have R6 : Unit → ((wrap64 (p + s)).natAbs : Int) ≤ 31 → ((wrap64 (a + d)).natAbs : Int) ≤ 31 → wrap64 (p + s) = wrap64 (a + d) → 2 < ((wrap64 (p + s)).natAbs : Int) → ((num r = true ∧ num (wrap64 (s - p)) = true) ∧ num (wrap64 (-q)) = true) → ((num c = true ∧ num (wrap64 (d - a)) = true) ∧ num (wrap64 (-b)) = true) → A = (E, B) := fun _ h1 h2 h3 h4 h5 h => by
      rw [hR, if_pos ⟨h1, h2⟩, if_pos h3, if_neg (Int.not_le.2 h4), if_pos ⟨h5, h⟩]
    have R7 : Unit → ((wrap64 (p + s)).natAbs : Int) ≤ 31 → ((wrap64 (a + d)).natAbs : Int) ≤ 31 → wrap64 (p + s) = wrap64 (a + d) → ((wrap64 (p + s)).natAbs : Int) ≤ 2 → A = (V, true) := fun _ h1 h2 h3 h => by
      rw [hR, if_pos ⟨h1, h2⟩, if_pos h3, if_pos h]
    have R8 : Unit → ((wrap64 (p + s)).natAbs : Int) ≤ 2 → (wrap64 (p + s)).natAbs ≤ 2 := fun _ h => Int.ofNat_le.1 h
    clear hR
    refine afun_intro fn11 rfl rfl (by repeat' (first | exact trivial | (simp; done) | refine ⟨?_, ?_⟩)) ?_
    unfold ac11
    repeat' (first | ((with_reducible refine (?_ : setK _ _ _ _)); simp only [setK, runIt, gF, gT, getK, putK, opK, opA, evK, effK]; (try simp only [wpA, evK, getK])) | ((with_reducible refine (?_ : (_ : Bool) = _)); (with_reducible rfl)) | ((with_reducible refine (?_ : (_ : Nat × Nat) = _)); (with_reducible rfl)) | (with_reducible refine leafRI ?_) | (with_reducible refine leafRB ?_) | (with_reducible refine leafI ?_) | (with_reducible refine leafB ?_) | ((with_reducible refine (?_ : (_ : Int) = _)); (with_reducible rfl)) | ((with_reducible refine (?_ : (_ : List (List Value)) = _)); (with_reducible rfl)) | ((with_reducible refine (?_ : (_ : Int) ≠ 0)); (first | assumption | omega | (simp; done) | (simp only [ints_len] at *; omega) | (simp; omega))) | ((with_reducible refine (?_ : (_ : Int) ≤ _)); (first | assumption | omega | (simp; done) | (simp only [ints_len] at *; omega) | (simp; omega))) | ((with_reducible refine (?_ : (_ : Int) < _)); (first | assumption | omega | (simp; done) | (simp only [ints_len] at *; omega) | (simp; omega))) | ((with_reducible refine (?_ : (_ : Nat) ≤ _)); (first | omega | (simp only [List.length_cons, List.length_nil]; omega) | (simp [ints]; done) | (simp; omega))) | ((with_reducible refine (?_ : (_ : Nat) < _)); (first | omega | (simp only [List.length_cons, List.length_nil]; omega) | (simp [ints]; done) | (simp; omega))) | ((with_reducible refine (?_ : (_ : Nat) = _)); (first | (with_reducible rfl) | (simp; done) | (simp only [fr_len]) | (simp only [ints_len]) | omega | (simp [*]; done))) | (refine And.intro ?_ ?_) | (intro h; first | (exact Bool.noConfusion h) | ((simp only [decide_eq_true_eq, decide_eq_false_iff_not, beq_iff_eq, bne_iff_ne, ne_eq, beq_eq_false_iff_ne, bne_eq_false_iff_eq, Bool.not_eq_true', Bool.not_eq_false', Bool.not_eq_true, Bool.not_eq_false, Int.not_le, Int.not_lt, Bool.and_eq_true, Bool.or_eq_true, Bool.or_eq_false_iff, Bool.and_eq_false_iff] at h); (try (first | (exact Bool.noConfusion h) | (exact (h trivial).elim)))) | skip) | ((refine (?_ : ACall _ _ _ _ _ _ _)); first | ((apply acall (spec_moProper _ _ _ _)); (focus (repeat' (first | exact rfl | (refine And.intro ?_ ?_) | (simp only [ints_len]; done) | (simp; done) | omega)))) | ((apply acall (spec_l1Abs _ ?_ ?_)); (focus (repeat' (first | exact rfl | (refine And.intro ?_ ?_) | (simp only [ints_len]; done) | (simp; done) | omega)))) | ((apply acall (spec_moForm _ _ _ _)); (focus (repeat' (first | exact rfl | (refine And.intro ?_ ?_) | (simp only [ints_len]; done) | (simp; done) | omega)))) | ((apply acall (spec_foGood _ _ _)); (focus (repeat' (first | exact rfl | (refine And.intro ?_ ?_) | (simp only [ints_len]; done) | (simp; done) | omega)))) | ((apply acall (hc () ?_)); (focus (repeat' (first | exact rfl | (refine And.intro ?_ ?_) | (simp only [ints_len]; done) | (simp; done) | omega)))) | ((apply acall (hs () ?_ ?_)); (focus (repeat' (first | exact rfl | (refine And.intro ?_ ?_) | (simp only [ints_len]; done) | (simp; done) | omega))))) | ((with_reducible refine (?_ : chk _ _ = true)); kernel_rfl) | ((with_reducible refine (?_ : (_ : IntKind) = _)); (with_reducible rfl)) | ((with_reducible refine (?_ : eqC (C.pvw _ _ _) (C.pvw _ _ _))); exact rfl) | ((with_reducible refine (?_ : eqC (C.pv (Value.int IntKind.u64 _)) _)); exact rfl) | exact trivial)
    all_goals (first | (clear hs hc; skip) | skip)
    all_goals try (exfalso; clear R1 R2 R3 R4 R5 R6 R7 R8 hw1 hw2; simp_all only [reduceCtorEq]; done)
    all_goals first
      | assumption
      | (exact R8 () h)
      | (rw [R1 () h])
      | (rw [R2 () h])
      | (rw [R3 () ‹_› ‹_› h])
      | (rw [R4 () ‹_› ‹_› ‹_› ‹_› h])
      | (rw [R5 () ‹_› ‹_› ‹_› ‹_› h])
      | (rw [R6 () ‹_› ‹_› ‹_› ‹_› ‹_› h])
      | (rw [R7 () ‹_› ‹_› ‹_› h])
      | skip
    · rename_i g; rw [R1 () g]
    · rename_i g; rw [R1 () g]
    · rename_i g1 g2 g3 g4 g5; rw [R4 () g1 g2 g3 g4 g5]
    · rename_i g1 g2 g3 g4 g5; rw [R4 () g1 g2 g3 g4 g5]
  · have hR : acR (p, q, r, s) (a, b, c, d) = (false, false) := by
      unfold acR acG
      rw [if_neg (by simp only [Bool.and_eq_true, decide_eq_true_eq]; grind)]
    rw [hR]
    refine afun_intro fn11 rfl rfl (by repeat' (first | exact trivial | (simp; done) | refine ⟨?_, ?_⟩)) ?_
    unfold ac11
    repeat' (first | ((with_reducible refine (?_ : (_ : Bool) = _)); (with_reducible rfl)) | ((with_reducible refine (?_ : (_ : Nat × Nat) = _)); (with_reducible rfl)) | (with_reducible refine leafRI ?_) | (with_reducible refine leafRB ?_) | (with_reducible refine leafI ?_) | (with_reducible refine leafB ?_) | ((with_reducible refine (?_ : (_ : Int) = _)); (with_reducible rfl)) | ((with_reducible refine (?_ : (_ : List (List Value)) = _)); (with_reducible rfl)) | ((with_reducible refine (?_ : (_ : Int) ≠ 0)); (first | assumption | omega | (simp; done) | (simp only [ints_len] at *; omega) | (simp; omega))) | ((with_reducible refine (?_ : (_ : Int) ≤ _)); (first | assumption | omega | (simp; done) | (simp only [ints_len] at *; omega) | (simp; omega))) | ((with_reducible refine (?_ : (_ : Int) < _)); (first | assumption | omega | (simp; done) | (simp only [ints_len] at *; omega) | (simp; omega))) | ((with_reducible refine (?_ : (_ : Nat) ≤ _)); (first | omega | (simp only [List.length_cons, List.length_nil]; omega) | (simp [ints]; done) | (simp; omega))) | ((with_reducible refine (?_ : (_ : Nat) < _)); (first | omega | (simp only [List.length_cons, List.length_nil]; omega) | (simp [ints]; done) | (simp; omega))) | ((with_reducible refine (?_ : (_ : Nat) = _)); (first | (with_reducible rfl) | (simp; done) | (simp only [fr_len]) | (simp only [ints_len]) | omega | (simp [*]; done))) | (refine And.intro ?_ ?_) | (intro h; first | (exact Bool.noConfusion h) | ((simp only [decide_eq_true_eq, decide_eq_false_iff_not, beq_iff_eq, bne_iff_ne, ne_eq, beq_eq_false_iff_ne, bne_eq_false_iff_eq, Bool.not_eq_true', Bool.not_eq_false', Bool.not_eq_true, Bool.not_eq_false, Int.not_le, Int.not_lt, Bool.and_eq_true, Bool.or_eq_true, Bool.or_eq_false_iff, Bool.and_eq_false_iff] at h); (try (first | (exact Bool.noConfusion h) | (exact (h trivial).elim)))) | skip) | ((refine (?_ : ACall _ _ _ _ _ _ _)); first | ((apply acall (spec_moProper _ _ _ _)); (focus (repeat' (first | exact rfl | (refine And.intro ?_ ?_) | (simp only [ints_len]; done) | (simp; done) | omega))))) | ((with_reducible refine (?_ : chk _ _ = true)); kernel_rfl) | ((with_reducible refine (?_ : (_ : IntKind) = _)); (with_reducible rfl)) | ((with_reducible refine (?_ : eqC (C.pvw _ _ _) (C.pvw _ _ _))); exact rfl) | ((with_reducible refine (?_ : eqC (C.pv (Value.int IntKind.u64 _)) _)); exact rfl) | exact trivial)
    all_goals first | rfl | (exact absurd (And.intro (by assumption) h) hp)

end Go.Proofs.Ytdgfnmkiabjfnaa

/-! AreConjugate: impl's, the law. -/
namespace Go.Proofs.Ytdgfnmkiabjfnaa
open Go.RowKit
set_option linter.unusedSimpArgs false
set_option linter.unusedVariables false
set_option maxRecDepth 100000
set_option maxHeartbeats 2000000

theorem impl_AreConjugate (p q r s a b c d : Int) : AFun Try.prog 10 [] [Ma p q r s, Ma a b c d] (PBB (acR (p, q, r, s) (a, b, c, d)).1 (acR (p, q, r, s) (a, b, c, d)).2) [] [] := by
  by_cases hp : prp (p, q, r, s) = true ∧ prp (a, b, c, d) = true
  · obtain ⟨hp1, hp2⟩ := hp
    obtain ⟨h1, h2, h3, h4, h5⟩ := prp_iff.1 hp1
    obtain ⟨k1, k2, k3, k4, k5⟩ := prp_iff.1 hp2
    have hR : acR (p, q, r, s) (a, b, c, d) = if (p + s).natAbs ≤ 31 ∧ (a + d).natAbs ≤ 31 then (if p + s = a + d then (if (p + s).natAbs ≤ 2 then (decide (dirF (r, s - p, -q) = dirF (c, d - a, -b)), true) else if fkT (p, q, r, s) = true ∧ fkT (a, b, c, d) = true then (scE (r, s - p, -q) (c, d - a, -b), scB (r, s - p, -q) (c, d - a, -b)) else (false, false)) else (false, true)) else (false, false) := by
      simp only [acR, acG, hp1, hp2, Bool.true_and, Bool.and_eq_true, decide_eq_true_eq]
    obtain ⟨fz, ef, hf⟩ : ∃ fz : Int → Int → Int → Int → T3, (∀ p q r s, fkT (p, q, r, s) = true → fz p q r s = fxT (p, q, r, s)) ∧ ∀ p q r s, prp (p, q, r, s) = true → AFun Try.prog 14 [] [Ma p q r s] (.tup [(true, c3 (fz p q r s)), (false, [cB (fkT (p, q, r, s))])]) [] [] :=
      ⟨fun p q r s => if fkT (p, q, r, s) then fxT (p, q, r, s) else z3, fun p q r s h => if_pos h, fun p q r s h => impl_FixedForm _ _ _ _ h⟩
    have e1 : fkT (p, q, r, s) = true → fz p q r s = (r, s - p, -q) := ef p q r s
    have e2 : fkT (a, b, c, d) = true → fz a b c d = (c, d - a, -b) := ef a b c d
    rw [hR]
    clear hR ef
    refine afun_intro fn10 rfl rfl (by repeat' (first | exact trivial | (simp; done) | refine ⟨?_, ?_⟩)) ?_
    unfold ac10
    repeat' (first | ((with_reducible refine (?_ : setK _ _ _ _)); simp only [setK, runIt, gF, gT, getK, putK, opK, opA, evK, effK]; (try simp only [wpA, evK, getK])) | ((with_reducible refine (?_ : (_ : Bool) = _)); (with_reducible rfl)) | ((with_reducible refine (?_ : (_ : Nat × Nat) = _)); (with_reducible rfl)) | (with_reducible refine leafRI ?_) | (with_reducible refine leafRB ?_) | (with_reducible refine leafI ?_) | (with_reducible refine leafB ?_) | ((with_reducible refine (?_ : (_ : Int) = _)); (with_reducible rfl)) | ((with_reducible refine (?_ : (_ : List (List Value)) = _)); (with_reducible rfl)) | ((with_reducible refine (?_ : (_ : Int) ≠ 0)); (first | assumption | omega | (simp; done) | (simp only [ints_len] at *; omega) | (simp; omega))) | ((with_reducible refine (?_ : (_ : Int) ≤ _)); (first | assumption | omega | (simp; done) | (simp only [ints_len] at *; omega) | (simp; omega))) | ((with_reducible refine (?_ : (_ : Int) < _)); (first | assumption | omega | (simp; done) | (simp only [ints_len] at *; omega) | (simp; omega))) | ((with_reducible refine (?_ : (_ : Nat) ≤ _)); (first | omega | (simp only [List.length_cons, List.length_nil]; omega) | (simp [ints]; done) | (simp; omega))) | ((with_reducible refine (?_ : (_ : Nat) < _)); (first | omega | (simp only [List.length_cons, List.length_nil]; omega) | (simp [ints]; done) | (simp; omega))) | ((with_reducible refine (?_ : (_ : Nat) = _)); (first | (with_reducible rfl) | (simp; done) | (simp only [fr_len]) | (simp only [ints_len]) | omega | (simp [*]; done))) | (refine And.intro ?_ ?_) | (intro h; first | (exact Bool.noConfusion h) | ((simp only [decide_eq_true_eq, decide_eq_false_iff_not, beq_iff_eq, bne_iff_ne, ne_eq, beq_eq_false_iff_ne, bne_eq_false_iff_eq, Bool.not_eq_true', Bool.not_eq_false', Bool.not_eq_true, Bool.not_eq_false, Int.not_le, Int.not_lt, Bool.and_eq_true, Bool.or_eq_true, Bool.or_eq_false_iff, Bool.and_eq_false_iff] at h); (try (first | (exact Bool.noConfusion h) | (exact (h trivial).elim)))) | skip) | ((refine (?_ : ACall _ _ _ _ _ _ _)); first | ((apply acall (impl_isProper _ _ _ _)); (focus (repeat' (first | exact rfl | (refine And.intro ?_ ?_) | (simp only [ints_len]; done) | (simp; done) | omega)))) | ((apply acall (impl_trace _ _ _ _ ?_ ?_ ?_ ?_)); (focus (repeat' (first | exact rfl | (refine And.intro ?_ ?_) | (simp only [ints_len]; done) | (simp; done) | omega)))) | ((apply acall (impl_abs _ ?_ ?_)); (focus (repeat' (first | exact rfl | (refine And.intro ?_ ?_) | (simp only [ints_len]; done) | (simp; done) | omega)))) | ((apply acall (impl_direction _ _ _ _ ?_)); (focus (repeat' (first | exact rfl | (refine And.intro ?_ ?_) | (simp only [ints_len]; done) | (simp; done) | omega)))) | ((apply acall (hf _ _ _ _ ?_)); (focus (repeat' (first | exact rfl | (refine And.intro ?_ ?_) | (simp only [ints_len]; done) | (simp; done) | omega)))) | ((apply acall (impl_SameCycle _ _ _ _ _ _)); (focus (repeat' (first | exact rfl | (refine And.intro ?_ ?_) | (simp only [ints_len]; done) | (simp; done) | omega))))) | ((with_reducible refine (?_ : chk _ _ = true)); kernel_rfl) | ((with_reducible refine (?_ : (_ : IntKind) = _)); (with_reducible rfl)) | ((with_reducible refine (?_ : eqC (C.pvw _ _ _) (C.pvw _ _ _))); exact rfl) | ((with_reducible refine (?_ : eqC (C.pv (Value.int IntKind.u64 _)) _)); exact rfl) | exact trivial)
    all_goals clear hf
    all_goals try assumption
    all_goals try (exfalso; simp_all only [reduceCtorEq]; done)
    all_goals (try rw [e1 ‹_›])
    all_goals (try rw [e2 ‹_›])
    all_goals (repeat' split)
    all_goals first | rfl | (exfalso; omega) | (simp_all; done) | skip
  · have hR : acR (p, q, r, s) (a, b, c, d) = (false, false) := by
      unfold acR acG
      rw [if_neg (by simp only [Bool.and_eq_true, decide_eq_true_eq]; grind)]
    rw [hR]
    refine afun_intro fn10 rfl rfl (by repeat' (first | exact trivial | (simp; done) | refine ⟨?_, ?_⟩)) ?_
    unfold ac10
    repeat' (first | ((with_reducible refine (?_ : (_ : Bool) = _)); (with_reducible rfl)) | ((with_reducible refine (?_ : (_ : Nat × Nat) = _)); (with_reducible rfl)) | (with_reducible refine leafRI ?_) | (with_reducible refine leafRB ?_) | (with_reducible refine leafI ?_) | (with_reducible refine leafB ?_) | ((with_reducible refine (?_ : (_ : Int) = _)); (with_reducible rfl)) | ((with_reducible refine (?_ : (_ : List (List Value)) = _)); (with_reducible rfl)) | ((with_reducible refine (?_ : (_ : Int) ≠ 0)); (first | assumption | omega | (simp; done) | (simp only [ints_len] at *; omega) | (simp; omega))) | ((with_reducible refine (?_ : (_ : Int) ≤ _)); (first | assumption | omega | (simp; done) | (simp only [ints_len] at *; omega) | (simp; omega))) | ((with_reducible refine (?_ : (_ : Int) < _)); (first | assumption | omega | (simp; done) | (simp only [ints_len] at *; omega) | (simp; omega))) | ((with_reducible refine (?_ : (_ : Nat) ≤ _)); (first | omega | (simp only [List.length_cons, List.length_nil]; omega) | (simp [ints]; done) | (simp; omega))) | ((with_reducible refine (?_ : (_ : Nat) < _)); (first | omega | (simp only [List.length_cons, List.length_nil]; omega) | (simp [ints]; done) | (simp; omega))) | ((with_reducible refine (?_ : (_ : Nat) = _)); (first | (with_reducible rfl) | (simp; done) | (simp only [fr_len]) | (simp only [ints_len]) | omega | (simp [*]; done))) | (refine And.intro ?_ ?_) | (intro h; first | (exact Bool.noConfusion h) | ((simp only [decide_eq_true_eq, decide_eq_false_iff_not, beq_iff_eq, bne_iff_ne, ne_eq, beq_eq_false_iff_ne, bne_eq_false_iff_eq, Bool.not_eq_true', Bool.not_eq_false', Bool.not_eq_true, Bool.not_eq_false, Int.not_le, Int.not_lt, Bool.and_eq_true, Bool.or_eq_true, Bool.or_eq_false_iff, Bool.and_eq_false_iff] at h); (try (first | (exact Bool.noConfusion h) | (exact (h trivial).elim)))) | skip) | ((refine (?_ : ACall _ _ _ _ _ _ _)); first | ((apply acall (impl_isProper _ _ _ _)); (focus (repeat' (first | exact rfl | (refine And.intro ?_ ?_) | (simp only [ints_len]; done) | (simp; done) | omega))))) | ((with_reducible refine (?_ : chk _ _ = true)); kernel_rfl) | ((with_reducible refine (?_ : (_ : IntKind) = _)); (with_reducible rfl)) | ((with_reducible refine (?_ : eqC (C.pvw _ _ _) (C.pvw _ _ _))); exact rfl) | ((with_reducible refine (?_ : eqC (C.pv (Value.int IntKind.u64 _)) _)); exact rfl) | exact trivial)
    all_goals first | rfl | (exact absurd (And.intro (by assumption) h) hp)

end Go.Proofs.Ytdgfnmkiabjfnaa
