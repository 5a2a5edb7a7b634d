/- Cycles of indefinite forms: the cycle, SameCycle. -/
import Derived.Test.YtnlabjnjcfapiaaH9
namespace Go.Proofs.Ytnlabjnjcfapiaa
open Go.RowKit
set_option linter.unusedSimpArgs false
set_option linter.unusedVariables false
set_option maxRecDepth 100000
set_option maxHeartbeats 2000000

/-- A cyclic form's period, its cycle. -/
noncomputable def cyP (D : Int) (f : T3) : Nat := Classical.epsilon fun p => 1 ≤ p ∧ p ≤ 2016 ∧ orb D (rt D) f p = f ∧ ∀ k, 1 ≤ k → k < p → orb D (rt D) f k ≠ f
theorem cyP_spec {D : Int} {f : T3} (G : IG D f) (hc : cyc (rt D) f = true) : 1 ≤ cyP D f ∧ cyP D f ≤ 2016 ∧ orb D (rt D) f (cyP D f) = f ∧ ∀ k, 1 ≤ k → k < cyP D f → orb D (rt D) f k ≠ f := by
  obtain ⟨R, hr, _⟩ := cdG_RD G.g
  exact Classical.epsilon_spec (p := fun p => 1 ≤ p ∧ p ≤ 2016 ∧ orb D (rt D) f p = f ∧ ∀ k, 1 ≤ k → k < p → orb D (rt D) f k ≠ f) (orb_per R hr G.d hc)
def cyO (D : Int) (f : T3) (k : Nat) : List T3 := (List.range k).map (orb D (rt D) f)
theorem cyO_len (D : Int) (f : T3) (k : Nat) : (cyO D f k).length = k := by simp [cyO]
theorem cyO_s (D : Int) (f : T3) (k : Nat) : cyO D f (k + 1) = cyO D f k ++ [orb D (rt D) f k] := by simp [cyO, List.range_succ]
theorem orb_IG {D : Int} {f : T3} (G : IG D f) (hc : cyc (rt D) f = true) (k : Nat) : IG D (orb D (rt D) f k) := by
  obtain ⟨R, hr, _⟩ := cdG_RD G.g
  obtain ⟨h1, h2⟩ := orb_ok R G.d hc k
  have h3 := cyc_c R h1 h2
  have h4 := cyc_iff.1 h2
  have r0 := R.p
  refine ⟨?_, ?_, ?_, h1, G.g⟩ <;> simp only [num, Bool.and_eq_true, decide_eq_true_eq] <;> omega
theorem cnx_num {D : Int} {f : T3} (G : IG D f) (hc : cyc (rt D) f = true) : IG D (cnx D (rt D) f) := orb_IG G hc 1

structure CG (D : Int) (f : T3) : Prop where
  g : IG D f
  c : cyc (rt D) f = true

/-- What holds at the head of the loop: k forms are in the list, g is next. -/
structure CyI (D : Int) (f : T3) (k : Nat) (R : List (List Value)) (g : T3) : Prop where
  k0 : 1 ≤ k
  k1 : k ≤ cyP D f
  r : R = fr (cyO D f k)
  o : g = orb D (rt D) f k
theorem CyI.step {D : Int} {f : T3} {k : Nat} {R : List (List Value)} {g : T3} (G : CG D f) (I : CyI D f k R g) (h : g ≠ f) : CyI D f (k + 1) (R ++ [[.int .i64 g.1, .int .i64 g.2.1, .int .i64 g.2.2]]) (cnx D (rt D) g) ∧ k + 1 ≤ 2016 := by
  have hp := cyP_spec G.g G.c
  have hk : k ≠ cyP D f := fun e => h (by rw [I.o, e]; exact hp.2.2.1)
  have := I.k1
  refine ⟨⟨by omega, by omega, ?_, ?_⟩, by omega⟩
  · rw [cyO_s, fr_app, I.r, I.o]; rfl
  · rw [I.o]; rfl
theorem CyI.stop {D : Int} {f : T3} {k : Nat} {R : List (List Value)} {g : T3} (G : CG D f) (I : CyI D f k R g) (h : g = f) : k = cyP D f ∧ R = fr (cyO D f (cyP D f)) := by
  have hp := cyP_spec G.g G.c
  have hk : k = cyP D f := by
    rcases Nat.lt_or_ge k (cyP D f) with h1 | h1
    · exact absurd (I.o.symm.trans h) (hp.2.2.2 k I.k0 h1)
    · have := I.k1; omega
  exact ⟨hk, by rw [I.r, hk]⟩
theorem CyI.len {D : Int} {f : T3} {k : Nat} {R : List (List Value)} {g : T3} (G : CG D f) (I : CyI D f k R g) : R.length = k ∧ k ≤ 2016 ∧ IG D g ∧ cyc (rt D) g = true := by
  have hp := cyP_spec G.g G.c
  have := I.k1
  obtain ⟨R', hr, _⟩ := cdG_RD G.g.g
  rw [I.r, fr_len, cyO_len, I.o]
  exact ⟨rfl, by omega, orb_IG G.g G.c k, (orb_ok R' G.g.d G.c k).2⟩
theorem CyI.first {D : Int} {f : T3} (G : CG D f) : CyI D f 1 [[.int .i64 f.1, .int .i64 f.2.1, .int .i64 f.2.2]] (cnx D (rt D) f) := ⟨Nat.le_refl _, (cyP_spec G.g G.c).1, rfl, rfl⟩

theorem impl_cycle (D a b c : Int) (G : CG D (a, b, c)) : AFun Try.prog 30 [] [Fo a b c] (.c (.slc (0, 0) (cyP D (a, b, c)))) [] [FF (cyO D (a, b, c) (cyP D (a, b, c)))] := by
  have hp := (cyP_spec G.g G.c).2.1
  have h1 := impl_neighbour D a b c G.g
  have f1 := CyI.first G
  refine afun_intro fn30 rfl rfl (by repeat' (first | exact trivial | (simp; done) | refine ⟨?_, ?_⟩)) ?_
  unfold ac30
  repeat' (first | ((with_reducible refine (?_ : (_ : Bool) = _)); (with_reducible rfl)) | ((with_reducible refine (?_ : (_ : Nat × Nat) = _)); (with_reducible rfl)) | (with_reducible refine leafRI ?_) | (with_reducible refine leafRB ?_) | (with_reducible refine leafI ?_) | (with_reducible refine leafB ?_) | ((with_reducible refine (?_ : (_ : Int) = _)); (with_reducible rfl)) | ((with_reducible refine (?_ : (_ : List (List Value)) = _)); (with_reducible rfl)) | ((with_reducible refine (?_ : (_ : Int) ≠ 0)); (first | assumption | omega | (simp; done) | (simp only [ints_len] at *; omega) | (simp; omega))) | ((with_reducible refine (?_ : (_ : Int) ≤ _)); (first | assumption | omega | (simp; done) | (simp only [ints_len] at *; omega) | (simp; omega))) | ((with_reducible refine (?_ : (_ : Int) < _)); (first | assumption | omega | (simp; done) | (simp only [ints_len] at *; omega) | (simp; omega))) | ((with_reducible refine (?_ : (_ : Nat) ≤ _)); (first | omega | (simp only [List.length_cons, List.length_nil]; omega) | (simp [ints]; done) | (simp; omega))) | ((with_reducible refine (?_ : (_ : Nat) < _)); (first | omega | (simp only [List.length_cons, List.length_nil]; omega) | (simp [ints]; done) | (simp; omega))) | ((with_reducible refine (?_ : (_ : Nat) = _)); (first | (with_reducible rfl) | (simp; done) | (simp only [fr_len]) | (simp only [ints_len]) | omega | (simp [*]; done))) | (refine And.intro ?_ ?_) | (intro h; first | (exact Bool.noConfusion h) | ((simp only [decide_eq_true_eq, decide_eq_false_iff_not, beq_iff_eq, bne_iff_ne, ne_eq, beq_eq_false_iff_ne, bne_eq_false_iff_eq, Bool.not_eq_true', Bool.not_eq_false', Bool.not_eq_true, Bool.not_eq_false, Int.not_le, Int.not_lt, Bool.and_eq_true, Bool.or_eq_true, Bool.or_eq_false_iff, Bool.and_eq_false_iff] at h); (try (first | (exact Bool.noConfusion h) | (exact (h trivial).elim)))) | skip) | ((refine (?_ : ACall _ _ _ _ _ _ _)); first | ((apply acall (h1)); (focus (repeat' (first | exact rfl | (refine And.intro ?_ ?_) | (simp only [ints_len]; done) | (simp; done) | omega))))) | ((with_reducible refine (?_ : chk _ _ = true)); kernel_rfl) | ((with_reducible refine (?_ : (_ : IntKind) = _)); (with_reducible rfl)) | ((with_reducible refine (?_ : eqC (C.pvw _ _ _) (C.pvw _ _ _))); exact rfl) | ((with_reducible refine (?_ : eqC (C.pv (Value.int IntKind.u64 _)) _)); exact rfl) | exact trivial)
  refine loop_rule (σ := Nat × List (List Value) × T3 × T4) (fun s => [(3, .c (.slc (7, 0) s.1)), (4, .c (.ptr (4, 0) 0)), (5, .c (.ptr (5, 0) 0))]) (fun s => [((1, 0), .bx (c3 (a, b, c))), ((2, 0), .fl 25 3 []), ((7, 0), .fl 25 3 s.2.1), ((4, 0), .bx (c3 s.2.2.1)), ((5, 0), .bx (c4 s.2.2.2))]) (fun s => CyI D (a, b, c) s.1 s.2.1 s.2.2.1) (fun s => 2016 - s.1) ((1, _, cnx D (rt D) (a, b, c), (0, -1, 1, cme (rt D) (a, b, c)))) ?_ (by repeat' (first | exact trivial | exact rfl | (refine And.intro ?_ ?_))) (by repeat' (first | exact trivial | exact rfl | (refine And.intro ?_ ?_))) (fun s => ⟨rfl, rfl⟩) (fun s i h => by first | exact absurd h (Nat.not_lt_zero i) | (cases i with | zero => rfl | succ i => exact absurd (Nat.lt_of_succ_lt_succ h) (Nat.not_lt_zero i))) ?_
  · exact f1
  · rintro ⟨k, R, ⟨x, y, z⟩, ⟨p, q, r, s⟩⟩ I
    dsimp only at I ⊢
    obtain ⟨l1, l2, l3, l4⟩ := I.len G
    have h2 := impl_neighbour D x y z l3
    have st := I.step G
    have sp := I.stop G
    repeat' (first | ((with_reducible refine (?_ : (_ : Bool) = _)); (with_reducible rfl)) | ((with_reducible refine (?_ : (_ : Nat × Nat) = _)); (with_reducible rfl)) | (with_reducible refine leafRI ?_) | (with_reducible refine leafRB ?_) | (with_reducible refine leafI ?_) | (with_reducible refine leafB ?_) | ((with_reducible refine (?_ : (_ : Int) = _)); (with_reducible rfl)) | ((with_reducible refine (?_ : (_ : List (List Value)) = _)); (with_reducible rfl)) | ((with_reducible refine (?_ : (_ : Int) ≠ 0)); (first | assumption | omega | (simp; done) | (simp only [ints_len] at *; omega) | (simp; omega))) | ((with_reducible refine (?_ : (_ : Int) ≤ _)); (first | assumption | omega | (simp; done) | (simp only [ints_len] at *; omega) | (simp; omega))) | ((with_reducible refine (?_ : (_ : Int) < _)); (first | assumption | omega | (simp; done) | (simp only [ints_len] at *; omega) | (simp; omega))) | ((with_reducible refine (?_ : (_ : Nat) ≤ _)); (first | omega | (simp only [List.length_cons, List.length_nil]; omega) | (simp [ints]; done) | (simp; omega))) | ((with_reducible refine (?_ : (_ : Nat) < _)); (first | omega | (simp only [List.length_cons, List.length_nil]; omega) | (simp [ints]; done) | (simp; omega))) | ((with_reducible refine (?_ : (_ : Nat) = _)); (first | (with_reducible rfl) | (simp; done) | (simp only [fr_len]) | (simp only [ints_len]) | omega | (simp [*]; done))) | (refine And.intro ?_ ?_) | (intro h; first | (exact Bool.noConfusion h) | ((simp only [decide_eq_true_eq, decide_eq_false_iff_not, beq_iff_eq, bne_iff_ne, ne_eq, beq_eq_false_iff_ne, bne_eq_false_iff_eq, Bool.not_eq_true', Bool.not_eq_false', Bool.not_eq_true, Bool.not_eq_false, Int.not_le, Int.not_lt, Bool.and_eq_true, Bool.or_eq_true, Bool.or_eq_false_iff, Bool.and_eq_false_iff] at h); (try (first | (exact Bool.noConfusion h) | (exact (h trivial).elim)))) | skip) | ((refine (?_ : ACall _ _ _ _ _ _ _)); first | ((apply acall (h2)); (focus (repeat' (first | exact rfl | (refine And.intro ?_ ?_) | (simp only [ints_len]; done) | (simp; done) | omega))))) | ((with_reducible refine (?_ : chk _ _ = true)); kernel_rfl) | ((with_reducible refine (?_ : (_ : IntKind) = _)); (with_reducible rfl)) | ((with_reducible refine (?_ : eqC (C.pvw _ _ _) (C.pvw _ _ _))); exact rfl) | ((with_reducible refine (?_ : eqC (C.pv (Value.int IntKind.u64 _)) _)); exact rfl) | exact trivial)
    · have hne : (x, y, z) ≠ (a, b, c) := fun e => by simp only [Prod.mk.injEq] at e; simp_all
      obtain ⟨i1, i2⟩ := st hne
      refine ⟨(_, _, cnx D (rt D) (x, y, z), (p, q, r, s)), ?_, ?_, none, And.intro rfl (And.intro (by repeat' (first | exact trivial | exact rfl | (refine And.intro ?_ ?_))) (by repeat' (first | exact trivial | exact rfl | (refine And.intro ?_ ?_))))⟩
      · dsimp only
        rw [l1]
        exact i1
      · dsimp only
        simp only [List.length_cons, List.length_nil]
        omega
    all_goals
      have he : (x, y, z) = (a, b, c) := by rw [h.1, h.2.1, h.2.2.1]
      obtain ⟨i1, i2⟩ := sp he
      first | omega | exact i2 | exact i1


end Go.Proofs.Ytnlabjnjcfapiaa
