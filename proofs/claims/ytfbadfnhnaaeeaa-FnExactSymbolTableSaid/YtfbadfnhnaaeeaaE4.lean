/- The abstract machine: each operation does what Go's does: the tools, and the operations that only reckon. -/
import Derived.Test.YtfbadfnhnaaeeaaE3
namespace Go.Proofs.Ytfbadfnhnaaeeaa
set_option linter.unusedSimpArgs false
set_option linter.unusedVariables false
open Go.RowKit

structure TRel (w0 : World) (F : Nat → Prop) (G : Gh) (M : Mem) (T : List V) (a : Act) : Prop where
  size : a.tmps.size = T.length
  defers : a.defers = []
  tm : ∀ (i : Nat) x, T[i]? = some x → ∃ v, a.tmps[i]? = some v ∧ ConcV w0 F G M x v

/-- What is known behind an operation. -/
def Next1 (w0 : World) (F : Nat → Prop) (G : Gh) (M : Mem) (a : Act) (dst : Option Tmp) (K : Act → World → Prop) (res : V) (eff : Eff) : Prop :=
  ∀ v w' G', Rel w0 F G' (eff.app M) w' → (∀ x u, ConcC w0 F G M x u → ConcC w0 F G' (eff.app M) x u) → ConcV w0 F G' (eff.app M) res v → K (a.put dst v) w'

/-- An operation that yields what 'res', 'eff' say. -/
def Does (P : Program) (w0 : World) (F : Nat → Prop) (G : Gh) (M : Mem) (T : List V) (o : Oper) (res : V) (eff : Eff) : Prop :=
  eff.ok M → ∀ a w K Q, Rel w0 F G M w → TRel w0 F G M T a → Next1 w0 F G M a o.dst K res eff → o.wp P a w K Q

def opdT : Opd → List Nat
  | .t i => [i]
  | .k _ => []
def optT : Option Opd → List Nat
  | some x => opdT x
  | none => []
/-- The temporaries that an operation looks at. -/
def tmpsA : AOp → List Nat
  | .mv x | .box x | .load _ x | .neg x | .not x | .faddr _ x | .fld _ _ x | .ext x _ | .len x | .mks _ _ _ _ x => opdT x
  | .nilS _ _ | .alloc _ _ => []
  | .pick a b c => opdT a ++ (opdT b ++ opdT c)
  | .build _ _ ps => ps.flatMap fun p => opdT p.2.2
  | .bslice _ _ ps => ps.flatMap opdT
  | .store _ x y | .bin _ x y | .binB _ x y | .eqS _ _ x y | .iaddrS _ x y | .iaddrA _ _ x y | .idxA _ _ _ x y | .max2 x y | .app _ _ _ x y => opdT x ++ opdT y
  | .sl _ x lo hi => opdT x ++ (optT lo ++ optT hi)
  | .call _ xs | .mkf _ xs => xs.flatMap opdT
  | .callc x xs => opdT x ++ xs.flatMap opdT
  | .mkm => []
  | .mset x y z => opdT x ++ (opdT y ++ opdT z)
  | .rng x | .ent x | .nchk x | .s2a _ x | .conv _ x => opdT x
  | .nilC _ => []
  | .bsliceC _ ps => ps.flatMap opdT
  | .binU _ _ x y | .shr _ x y | .strop _ x y | .sidx x y => opdT x ++ opdT y
  | .slen x => opdT x
  | .ssub x y z => opdT x ++ (opdT y ++ opdT z)

/-- The operation does so in whatever state that agrees with this one on what it looks at. -/
def DoesA (P : Program) (M : Mem) (T : List V) (ts : List Nat) (o : Oper) (res : V) (eff : Eff) (rd : List Nm) : Prop :=
  ∀ w0 F G M' T', (∀ t, t ∈ ts → T'[t]? = T[t]?) → (∀ n, n ∈ rd → M' n = M n) → Does P w0 F G M' T' o res eff

def lookS (M : Mem) : Nm → (Blk → Prop) → Prop := fun n k => ∃ b, M n = some b ∧ k b

section
variable {P : Program} {w0 : World} {F : Nat → Prop} {G : Gh} {M : Mem} {w : World} {T : List V} {a : Act} {o : Oper} {d : Nat} {K : Act → World → Prop} {Q : Exit → Act → World → Prop}

theorem wp_value {v : Value} {w' : World} (h : (execOp a.eval o).run P w = .ok (.value v) w') (hk : K (a.put o.dst v) w') : o.wp P a w K Q := by
  unfold Oper.wp
  rw [h]
  exact hk
theorem wp_skip' {w' : World} (h : (execOp a.eval o).run P w = .ok .skip w') (hk : K (a.put o.dst undef) w') : o.wp P a w K Q := by
  unfold Oper.wp
  rw [h]
  exact hk
theorem Next1.pure {res : V} {v : Value} (h : Next1 w0 F G M a o.dst K res .non) (hR : Rel w0 F G M w) (hv : ConcV w0 F G M res v) : K (a.put o.dst v) w :=
  h v w G hR (fun _ _ h => h) hv

theorem oneV_cell {v : Value} (h : oneV v = true) : v.oneCell' = true := by
  cases v <;> first | rfl | cases h
theorem oneV_cells {v : Value} (h : oneV v = true) : v.cells = #[v] := by
  cases v <;> first | rfl | cases h
theorem oneVs_iff {l : List Value} : oneVs l = true ↔ ∀ v ∈ l, oneV v = true := by
  induction l with
  | nil => simp [oneVs]
  | cons v r ih =>
    simp only [oneVs]
    cases h : oneV v <;> simp [h, ih]
theorem okCs_iff {l : List C} : okCs l = true ↔ ∀ x ∈ l, okC x = true := by
  induction l with
  | nil => simp [okCs]
  | cons v r ih =>
    simp only [okCs]
    cases h : okC v <;> simp [h, ih]
theorem guardK_iff {b : Bool} {k : Prop} : guardK b k ↔ b = true ∧ k := by cases b <;> simp [guardK]

theorem okC_one {x : C} {v : Value} (h : okC x = true) (hc : ConcC w0 F G M x v) : oneV v = true := by
  cases x with
  | any => cases h
  | pv u => obtain rfl := hc; exact h
  | ptr n j => obtain ⟨B, _, rfl, _⟩ := hc; rfl
  | eptr n len i j => obtain ⟨e, sz, l, _, _, _, ⟨b, rfl⟩, _⟩ := hc; rfl
  | slc n len => obtain ⟨e, sz, l, _, _, _, ⟨b, cap, rfl⟩, _⟩ := hc; rfl
  | view sz l => obtain ⟨b, cap, rfl, _⟩ := hc; rfl
  | vptr es j => obtain ⟨b, o, _, rfl, _⟩ := hc; rfl
  | sub n len lo cnt => obtain ⟨e, sz, l, _, _, ⟨b, cap, rfl⟩, _⟩ := hc; rfl
  | ref n => exact hc.2.1
  | pview sz l => obtain ⟨b, o, v, _, rfl, _⟩ := hc; rfl
  | pvw v sz l => obtain ⟨rfl, a, cap, rfl, _⟩ := hc; rfl

/-- An operand: its abstract value, and that it stands for it wherever its temporary does. -/
theorem evK_ex {x : Operand} {y : Opd} (hc : copd x = some y) {k : V → Prop} (h : evK T y k) :
    ∃ u, k u ∧ ∀ w0 F G M T' a, (∀ t, t ∈ opdT y → T'[t]? = T[t]?) → TRel w0 F G M T' a → ConcV w0 F G M u (a.eval x) := by
  cases x with
  | tmp t =>
    simp only [copd, Option.some.injEq] at hc
    subst hc
    obtain ⟨u, hu, hk⟩ := getK_iff.1 h
    refine ⟨u, hk, fun w0 F G M T' a hT' hT => ?_⟩
    obtain ⟨v, hv, hcv⟩ := hT.tm t u (by rw [hT' t (by simp [opdT])]; exact hu)
    simpa [Act.eval, Array.getD_eq_getD_getElem?, hv] using hcv
  | const v =>
    simp only [copd] at hc
    split at hc
    · cases hc; exact ⟨_, h, fun _ _ _ _ _ _ _ _ => rfl⟩
    · cases hc
  | func f => simp only [copd, Option.some.injEq] at hc; subst hc; exact ⟨_, h, fun _ _ _ _ _ _ _ _ => rfl⟩
  | global g => simp [copd] at hc

/-- The cells of a value that is stored: they are plain cells. -/
theorem cellsK_ex {u : V} {k : List C → Prop} (h : cellsK u k) : ∃ l, k l ∧ ∀ w0 F G M v, ConcV w0 F G M u v → ConcCs w0 F G M l v.cells.toList ∧ (∀ x ∈ v.cells.toList, oneV x = true) := by
  cases u with
  | c x =>
    simp only [cellsK] at h
    cases hx : okC x with
    | false => rw [hx] at h; exact h.elim
    | true =>
      rw [hx] at h
      refine ⟨_, h, fun w0 F G M v hc => ?_⟩
      have h1 := okC_one hx hc
      rw [oneV_cells h1]
      refine ⟨⟨rfl, fun j y hy => ?_⟩, fun y hy => by simp at hy; subst hy; exact h1⟩
      cases j with
      | zero => simp at hy; subst hy; exact ⟨v, rfl, hc⟩
      | succ j => simp at hy
  | agg l =>
    simp only [cellsK] at h
    cases hx : okCs l with
    | false => rw [hx] at h; exact h.elim
    | true =>
      rw [hx] at h
      refine ⟨l, h, fun w0 F G M v hc => ?_⟩
      obtain ⟨vs, rfl, hvs⟩ := hc
      refine ⟨hvs, fun y hy => ?_⟩
      obtain ⟨j, hj⟩ := List.mem_iff_getElem?.1 hy
      have hj' : j < l.length := by rw [← hvs.1]; exact (List.getElem?_eq_some_iff.1 hj).1
      obtain ⟨v, h1, h2⟩ := hvs.2 j l[j] (List.getElem?_eq_getElem hj')
      have e : v = y := by simp only [Value.cells] at hj; rw [hj] at h1; exact (Option.some.inj h1).symm
      subst e
      exact okC_one (okCs_iff.1 hx _ (List.getElem_mem hj')) h2
  | tup l => exact h.elim
  | clo f l => exact h.elim

theorem pvsK_ex {l : List C} {k : List Value → Prop} (h : pvsK l k) : ∃ vs, k vs ∧ ∀ w0 F G M us, ConcCs w0 F G M l us → us = vs := by
  induction l generalizing k with
  | nil => exact ⟨_, h, fun _ _ _ _ us hc => List.eq_nil_of_length_eq_zero hc.1⟩
  | cons x r ih =>
    cases x with
    | pv v =>
      obtain ⟨vs, h1, h2⟩ := ih h
      refine ⟨_, h1, fun w0 F G M us hc => ?_⟩
      cases us with
      | nil => have := hc.1; simp at this
      | cons u us =>
        obtain ⟨u', h3, h4⟩ := hc.2 0 (.pv v) rfl
        simp at h3
        subst h3
        obtain rfl := h4
        rw [h2 w0 F G M us ⟨by have := hc.1; simp at this; exact this, fun j y hy => hc.2 (j + 1) y hy⟩]
    | _ => exact h.elim
theorem valsK_ex {u : V} {k : List Value → Prop} (h : valsK u k) : ∃ vs, k vs ∧ ∀ w0 F G M v, ConcV w0 F G M u v → v.cells.toList = vs ∧ (∀ x ∈ vs, oneV x = true) := by
  obtain ⟨l, h1, h2⟩ := cellsK_ex h
  obtain ⟨vs, h3, h4⟩ := pvsK_ex h1
  refine ⟨vs, h3, fun w0 F G M v hc => ?_⟩
  obtain ⟨h5, h6⟩ := h2 w0 F G M v hc
  have e := h4 w0 F G M _ h5
  exact ⟨e, by rw [← e]; exact h6⟩

theorem ConcCs.drop {l : List C} {vs : List Value} (h : ConcCs w0 F G M l vs) (n : Nat) : ConcCs w0 F G M (l.drop n) (vs.drop n) :=
  ⟨by simp [h.1], fun j x hx => by simp only [List.getElem?_drop] at hx ⊢; exact h.2 _ x hx⟩
theorem ConcCs.take {l : List C} {vs : List Value} (h : ConcCs w0 F G M l vs) (n : Nat) : ConcCs w0 F G M (l.take n) (vs.take n) :=
  ⟨by simp [h.1], fun j x hx => by
    rw [List.getElem?_take] at hx ⊢
    by_cases hj : j < n
    · rw [if_pos hj] at hx ⊢; exact h.2 _ x hx
    · rw [if_neg hj] at hx; cases hx⟩
theorem ConcCs.splice {l xs : List C} {vs us : List Value} (h : ConcCs w0 F G M l vs) (hx : ConcCs w0 F G M xs us) (j : Nat) (hj : xs = [] ∨ j + xs.length ≤ l.length) : ConcCs w0 F G M (splice xs l j) (splice us vs j) := by
  have hj' : us = [] ∨ j + us.length ≤ vs.length := by
    rcases hj with rfl | hj
    · left; exact List.eq_nil_of_length_eq_zero (by rw [hx.1]; rfl)
    · right; rw [hx.1, h.1]; exact hj
  refine ⟨by rw [splice_length, splice_length]; exact h.1, fun i x hi => ?_⟩
  rw [splice_get _ _ _ _ hj] at hi
  rw [splice_get _ _ _ _ hj', hx.1]
  by_cases h1 : j ≤ i ∧ i < j + xs.length
  · rw [if_pos h1] at hi ⊢; exact hx.2 _ x hi
  · rw [if_neg h1] at hi ⊢; exact h.2 _ x hi

/-- What a load yields of the cells that it reads. -/
def vload (s : Option Nat) (vs : List Value) : Value := match s with
  | none => vs.headD undef
  | some _ => .agg vs.toArray
theorem mkV_ex {s : Option Nat} {l : List C} {k : V → Prop} (h : mkV s l k) : ∃ u, k u ∧ ∀ w0 F G M vs, ConcCs w0 F G M l vs → ConcV w0 F G M u (vload s vs) := by
  cases s with
  | none =>
    match l, h with
    | [x], h =>
      refine ⟨_, h, fun w0 F G M vs hc => ?_⟩
      match vs, hc with
      | [v], hc =>
        obtain ⟨u, h1, h2⟩ := hc.2 0 x rfl
        simp at h1
        subst h1
        exact h2
      | [], hc => have := hc.1; simp at this
      | _ :: _ :: _, hc => have := hc.1; simp at this
  | some n =>
    have h' : k (.agg l) := by
      match l, h with
      | [], h => exact h
      | [_], h => exact h
      | _ :: _ :: _, h => exact h
    exact ⟨_, h', fun w0 F G M vs hc => ⟨vs.toArray, rfl, by simpa using hc⟩⟩
theorem loadC_ex {s : Option Nat} {l : List C} {j : Nat} {k : V → Prop} (h : loadC s l j k) : j + s.getD 1 ≤ l.length ∧ ∃ u, k u ∧ ∀ w0 F G M vs, ConcCs w0 F G M l vs → ConcV w0 F G M u (vload s ((vs.drop j).take (s.getD 1))) := by
  obtain ⟨h1, h2⟩ := dropK_iff.1 h
  obtain ⟨h3, h4⟩ := takeK_iff.1 h2
  obtain ⟨u, h5, h6⟩ := mkV_ex h4
  exact ⟨by simp at h3; omega, u, h5, fun w0 F G M vs hc => h6 _ _ _ _ _ ((hc.drop j).take _)⟩
theorem pvmapK_ex {l : List Value} {k : List C → Prop} (h : pvmapK l k) : ∃ cs, k cs ∧ ∀ w0 F G M, ConcCs w0 F G M cs l := by
  induction l generalizing k with
  | nil => exact ⟨_, h, fun _ _ _ _ => ⟨rfl, fun j x hx => by simp at hx⟩⟩
  | cons v r ih =>
    obtain ⟨cs, h1, h2⟩ := ih h
    refine ⟨_, h1, fun w0 F G M => ⟨by simp [(h2 w0 F G M).1], fun j x hx => ?_⟩⟩
    cases j with
    | zero => simp at hx; subst hx; exact ⟨v, rfl, rfl⟩
    | succ j => exact (h2 w0 F G M).2 j x hx
theorem loadV_ex {s : Option Nat} {l : List Value} {j : Nat} {k : V → Prop} (h : loadV s l j k) : j + s.getD 1 ≤ l.length ∧ ∃ u, k u ∧ ∀ w0 F G M, ConcV w0 F G M u (vload s ((l.drop j).take (s.getD 1))) := by
  obtain ⟨h1, h2⟩ := dropK_iff.1 h
  obtain ⟨h3, h4⟩ := takeK_iff.1 h2
  obtain ⟨cs, h5, h6⟩ := pvmapK_ex h4
  obtain ⟨u, h7, h8⟩ := mkV_ex h5
  exact ⟨by simp at h3; omega, u, h7, fun w0 F G M => h8 _ _ _ _ _ (h6 w0 F G M)⟩

/-! ### operations that only reckon -/
abbrev Sound (P : Program) (M : Mem) (T : List V) (d : Nat) (o : Oper) (ao : AOp) (k : V → Eff → List Nm → Prop) : Prop :=
  opA P d T (lookS M) k ao → ∃ res eff rd, k res eff rd ∧ DoesA P M T (tmpsA ao) o res eff rd

theorem does_pure {ts : List Nat} {res : V} {rd : List Nm} (h : ∀ w0 F G M' T' a w, (∀ t, t ∈ ts → T'[t]? = T[t]?) → (∀ n, n ∈ rd → M' n = M n) → Rel w0 F G M' w → TRel w0 F G M' T' a → ∃ v, (execOp a.eval o).run P w = .ok (.value v) w ∧ ConcV w0 F G M' res v) :
    DoesA P M T ts o res .non rd := fun w0 F G M' T' h1 h2 _ a w K Q hR hT hK =>
  let ⟨v, h3, h4⟩ := h w0 F G M' T' a w h1 h2 hR hT
  wp_value h3 (hK.pure hR h4)

theorem sound_mv {x : Operand} {y : Opd} (ho : o.op = .move x ∨ o.op = .assign x) (hc : copd x = some y) {k : V → Eff → List Nm → Prop} : Sound P M T d o (.mv y) k := fun h => by
  obtain ⟨u, hu, hv⟩ := evK_ex hc h
  refine ⟨_, _, _, hu, does_pure fun w0 F G M' T' a w h1 h2 hR hT => ⟨a.eval x, ?_, hv _ _ _ _ _ _ h1 hT⟩⟩
  rcases ho with ho | ho <;> simp [execOp, ho]

theorem sound_pick {c x y : Operand} {c' x' y' : Opd} (ho : o.op = .pick c x y) (hc : copd c = some c') (hx : copd x = some x') (hy : copd y = some y') {k : V → Eff → List Nm → Prop} : Sound P M T d o (.pick c' x' y') k := fun h => by
  obtain ⟨u, hu, hv⟩ := evK_ex hc h
  match u, hu with
  | .c (.pv (.bool true)), hu =>
    obtain ⟨u1, hu1, hv1⟩ := evK_ex hx hu
    refine ⟨_, _, _, hu1, does_pure fun w0 F G M' T' a w h1 h2 hR hT => ?_⟩
    have e : a.eval c = .bool true := hv w0 F G M' T' a (fun t ht => h1 t (by simp [tmpsA, ht])) hT
    exact ⟨_, by simp [execOp, ho, e, asBool], hv1 _ _ _ _ _ _ (fun t ht => h1 t (by simp [tmpsA, ht])) hT⟩
  | .c (.pv (.bool false)), hu =>
    obtain ⟨u1, hu1, hv1⟩ := evK_ex hy hu
    refine ⟨_, _, _, hu1, does_pure fun w0 F G M' T' a w h1 h2 hR hT => ?_⟩
    have e : a.eval c = .bool false := hv w0 F G M' T' a (fun t ht => h1 t (by simp [tmpsA, ht])) hT
    exact ⟨_, by simp [execOp, ho, e, asBool], hv1 _ _ _ _ _ _ (fun t ht => h1 t (by simp [tmpsA, ht])) hT⟩

end
end Go.Proofs.Ytfbadfnhnaaeeaa
