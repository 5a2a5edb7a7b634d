/- The abstract machine: calls by contract. -/
import Derived.Test.YtfbadfnhnaaeeaaE10
namespace Go.Proofs.Ytfbadfnhnaaeeaa
set_option linter.unusedSimpArgs false
set_option linter.unusedVariables false
open Go.RowKit

section
variable {P : Program} {w0 : World} {F : Nat → Prop} {G : Gh} {M : Mem} {w : World} {T : List V} {a : Act} {o : Oper} {d : Nat} {K : Act → World → Prop} {Q : Exit → Act → World → Prop}

/-- During a call: every block that is there. -/
def There (w : World) (S : Nat → Prop) : Nat → Prop := fun k => k < w.heap.size ∧ ¬ S k

theorem wp_call {f : FuncId} {args : Array Operand} {ts : Array TypeId} (ho : o.op = .call { callee := .value (.func f), args := args, argTypes := ts }) (hu : isUser P f = true)
    (h : Calls P f (args.map a.eval) w fun e w' => ∃ v, e = .returned v ∧ K (a.put o.dst v) w') : o.wp P a w K Q := by
  have hrun : (execOp a.eval o).run P w = .ok (.enter f (args.map a.eval)) w := by
    unfold isUser at hu
    cases hf : P.funcs[f]? with
    | none => rw [hf] at hu; cases hu
    | some fn =>
      rw [hf] at hu
      simp only [Bool.and_eq_true, bne_iff_ne, ne_eq] at hu
      have hb : fn.body.isNone = false := by
        cases hfb : fn.body with
        | none => rw [hfb] at hu; simp at hu
        | some _ => rfl
      simp [execOp, ho, resolve, Act.eval, Deferred.ofValue, invoke, callFunc, hf, hu.1]
      intro e
      rw [e] at hb
      cases hb
  unfold Oper.wp
  rw [hrun, Oper.upon_enter]
  refine h.mono fun e w' ⟨v, he, hk⟩ => ?_
  subst he
  exact hk

/-- A read-only view of an own slice. -/
theorem view_of {B0 : Nat → Prop} {n : Nm} {e : TypeId} {sz : Nat} {l : List (List Value)} {G' : Gh} {M' : Mem} (hR : Rel w0 F G M w) (hn : M n = some (.fl e sz l)) (hB : ∀ B, blkOf (G n) = some B → ¬ B0 B) : ConcC w (There w B0) G' M' (.view sz l) (G n) := by
  obtain ⟨h1, h2, h3, h4, h5⟩ := hR.fl hn
  rcases h4.2 with ⟨r1, r2⟩ | ⟨B, cap, cur, r1, _, r3, r4, _⟩
  · have hl : l = [] := List.eq_nil_of_length_eq_zero r2
    subst hl
    exact ⟨none, 0, by rw [r1]; rfl, Nat.le_refl _, h2, h3, fun h => absurd rfl h⟩
  · refine ⟨_, cap, r1, r4, h2, h3, fun _ => ⟨B, 0, rfl, ⟨(Array.getElem?_eq_some_iff.1 r3).1, hB B (by rw [r1]; rfl)⟩, fun i r j v hi hj => ?_⟩⟩
    have hm := h2 r (List.mem_of_getElem? hi)
    have hj' : j < sz := by rw [← hm]; exact (List.getElem?_eq_some_iff.1 hj).1
    have := h4.cells (g := B) (by rw [r1]; rfl) (i * sz + j) v (by rw [flat_get h2 hi hj']; exact hj)
    rw [Addr.add_lit, Nat.zero_add] at this
    rw [Nat.zero_add]
    exact this
theorem view_keep {B0 : Nat → Prop} {sz : Nat} {l : List (List Value)} {x : Value} {G' : Gh} {M' : Mem} (hR : Rel w0 F G M w) (h : ConcC w0 F G M (.view sz l) x) (hB : ∀ B, F B → ¬ B0 B) : ConcC w (There w B0) G' M' (.view sz l) x := by
  obtain ⟨b, cap, h1, h2, h3, h4, h5⟩ := h
  refine ⟨b, cap, h1, h2, h3, h4, fun hne => ?_⟩
  obtain ⟨B, ob, e1, e2, e3⟩ := h5 hne
  exact ⟨B, ob, e1, ⟨Nat.lt_of_lt_of_le (hR.bd B e2) hR.size, hB B e2⟩, fun i r j v hi hj => by
    rw [World.cell?_of_block (w := w0) (hR.keep B e2)]; exact e3 i r j v hi hj⟩

/-- The blocks that are lent: what is known of them. -/
structure LnOk (ln : List Nm) (G : Gh) (M : Mem) (G1 : Gh) (M1 : Mem) : Prop where
  there : ∀ q, q ∈ ln → M q ≠ none
  mem : ∀ (i : Nat) q b, ln[i]? = some q → M q = some b → ∃ b', M1 (0, i) = some b' ∧ arrB b' = arrB b ∧ ∀ l, b = .bx l → b' = .bx l
  gh : ∀ (i : Nat) q, ln[i]? = some q → G1 (0, i) = G q
def lnB (ln : List Nm) (G : Gh) : Nat → Prop := fun B => ∃ q, q ∈ ln ∧ blkOf (G q) = some B
theorem lnIx_some : ∀ {ln : List Nm} {n : Nm} {i : Nat}, lnIx ln n = some i → ln[i]? = some n
  | [], n, i, h => by cases h
  | q :: r, n, i, h => by
    simp only [lnIx] at h
    cases hb : nmB q n with
    | true => rw [hb] at h; cases h; simp [nmB_iff.1 hb]
    | false =>
      rw [hb] at h
      cases hr : lnIx r n with
      | none => rw [hr] at h; cases h
      | some j => rw [hr] at h; cases h; simpa using lnIx_some hr
theorem lnIx_none : ∀ {ln : List Nm} {n : Nm}, lnIx ln n = none → n ∉ ln
  | [], n, h => by simp
  | q :: r, n, h => by
    simp only [lnIx] at h
    cases hb : nmB q n with
    | true => rw [hb] at h; cases h
    | false =>
      rw [hb] at h
      cases hr : lnIx r n with
      | none =>
        intro hm
        rcases List.mem_cons.1 hm with e | e
        · rw [nmB_iff.2 e.symm] at hb; cases hb
        · exact lnIx_none hr e
      | some j => rw [hr] at h; cases h
theorem nodupNm_inj : ∀ {ns : List Nm}, nodupNm ns = true → ∀ (i j : Nat) n, ns[i]? = some n → ns[j]? = some n → i = j
  | [], _, i, j, n, h1, _ => by simp at h1
  | q :: r, h, i, j, n, h1, h2 => by
    simp only [nodupNm] at h
    cases hr : lnIx r q with
    | some _ => rw [hr] at h; cases h
    | none =>
      rw [hr] at h
      have hq := lnIx_none hr
      cases i with
      | zero =>
        cases j with
        | zero => rfl
        | succ j =>
          simp at h1 h2
          subst h1
          exact absurd (List.mem_of_getElem? h2) hq
      | succ i =>
        cases j with
        | zero =>
          simp at h1 h2
          subst h2
          exact absurd (List.mem_of_getElem? h1) hq
        | succ j => rw [nodupNm_inj h i j n (by simpa using h1) (by simpa using h2)]
theorem ln_ne {ln : List Nm} {n : Nm} {G1 : Gh} {M1 : Mem} (hR : Rel w0 F G M w) (hL : LnOk ln G M G1 M1) (hn : M n ≠ none) (h : lnIx ln n = none) : ∀ B, blkOf (G n) = some B → ¬ lnB ln G B := fun B hB ⟨q, hq, e⟩ => by
  have := hR.dist n q B hn (hL.there q hq) hB e
  exact lnIx_none h (this ▸ hq)
theorem ln_F {ln : List Nm} {G1 : Gh} {M1 : Mem} (hR : Rel w0 F G M w) (hL : LnOk ln G M G1 M1) : ∀ B, F B → ¬ lnB ln G B := fun B hB ⟨q, hq, e⟩ => by
  obtain ⟨b, hb⟩ := Option.ne_none_iff_exists'.1 (hL.there q hq)
  exact ((hR.own q b hb).lt B e).2 hB

theorem boxK_ex {l : List C} {j : Nat} {k : C → Prop} (h : boxK l j k) : ∃ c, k c ∧ ∀ (w0 : World) (F : Nat → Prop) (G : Gh) (M : Mem) (cs : Array Value) (w1 : World) (F1 : Nat → Prop) (G1 : Gh) (M1 : Mem) (B : Nat) (ety : TypeId) (fr : Nat × Nat),
    ConcCs w0 F G M l cs.toList → w1.heap[B]? = some (.cells cs ety fr) → F1 B → (∀ v sz u, ConcC w0 F G M (.view sz u) v → ViewOk w1 F1 sz u v) → ConcC w1 F1 G1 M1 c (.pointer (some ⟨B, j, none⟩)) := by
  unfold boxK at h
  split at h
  · rename_i sz u
    refine ⟨_, h, fun w0 F G M cs w1 F1 G1 M1 B ety fr hc hB hF hv => ?_⟩
    obtain ⟨v, e1, e2⟩ := hc.2 0 _ rfl
    refine ⟨B, 0, v, hF, rfl, ?_, hv v sz u e2⟩
    simp only [World.cell?, hB]
    simpa using e1
  · obtain ⟨es, h0, hes⟩ := pvsK_ex h
    refine ⟨_, h0, fun w0 F G M cs w1 F1 G1 M1 B ety fr hc hB hF hv => ?_⟩
    have hce := hes _ _ _ _ _ hc
    refine ⟨B, 0, hF, by simp, fun j' v hv => ?_⟩
    rw [Nat.zero_add]
    simp only [World.cell?, hB]
    rw [← hce] at hv
    simpa using hv

theorem argCK_ex {ln : List Nm} : ∀ {l : List C} {k : List C → List Nm → Prop}, argCK ln (lookS M) l k → ∃ l' rd, k l' rd ∧ ∀ w0 F G M' w vs, (∀ n, n ∈ rd → M' n = M n) → Rel w0 F G M' w → ConcCs w0 F G M' l vs → ∀ G1 M1, LnOk ln G M' G1 M1 → ConcCs w (There w (lnB ln G)) G1 M1 l' vs
  | [], k, h => ⟨_, _, h, fun w0 F G M' w vs _ _ hc G1 M1 _ => ⟨hc.1, fun j x hx => by simp at hx⟩⟩
  | x :: r, k, h => by
    have cons : ∀ (x' : C) (r' : List C) (w0 : World) F G M' (w : World) vs G1 M1, ConcCs w0 F G M' (x :: r) vs → (∀ v, ConcC w0 F G M' x v → ConcC w (There w (lnB ln G)) G1 M1 x' v) → (∀ us, ConcCs w0 F G M' r us → ConcCs w (There w (lnB ln G)) G1 M1 r' us) →
        ConcCs w (There w (lnB ln G)) G1 M1 (x' :: r') vs := fun x' r' w0 F G M' w vs G1 M1 hc h1 h2 => by
      cases vs with
      | nil => have := hc.1; simp at this
      | cons v vs =>
        obtain ⟨v', e1, e2⟩ := hc.2 0 x rfl
        simp at e1
        subst e1
        have h3 := h2 vs ⟨by have := hc.1; simp at this; exact this, fun j y hy => hc.2 (j + 1) y hy⟩
        refine ⟨by simp [h3.1], fun j y hy => ?_⟩
        cases j with
        | zero => simp at hy; subst hy; exact ⟨v, rfl, h1 v e2⟩
        | succ j => exact h3.2 j y hy
    cases x with
    | slc n len =>
      simp only [argCK] at h
      split at h
      · rename_i i hq
        obtain ⟨l', rd, h1, h2⟩ := argCK_ex (l := r) h
        refine ⟨_, _, h1, fun w0 F G M' w vs hrd hR hc G1 M1 hL => cons _ _ w0 F G M' w vs G1 M1 hc (fun v hv => ?_) fun us hus => h2 w0 F G M' w us hrd hR hus G1 M1 hL⟩
        have hq := lnIx_some hq
        obtain ⟨e, sz, l, q1, q0, q2, q3, q4⟩ := hv
        obtain ⟨e', m1, m2, _⟩ := hL.mem i n e hq q1
        exact ⟨e', sz, l, m1, m2.trans q0, q2, q3, fun hl => (q4 hl).trans (hL.gh i n hq).symm⟩
      · rename_i hq
        obtain ⟨b, hb, h⟩ := h
        match b, h with
        | .fl e sz l, ⟨hlen, h⟩ =>
          obtain ⟨l', rd, h1, h2⟩ := argCK_ex (l := r) h
          refine ⟨_, _, h1, fun w0 F G M' w vs hrd hR hc G1 M1 hL => cons _ _ w0 F G M' w vs G1 M1 hc (fun v hv => ?_) fun us hus => h2 w0 F G M' w us (fun m hm => hrd m (by simp [hm])) hR hus G1 M1 hL⟩
          have hn := (hrd n (by simp)).trans hb
          obtain ⟨_, _, _, q1, q0, _, _, q2⟩ := hv
          rw [hn] at q1
          obtain rfl := Option.some.inj q1
          simp only [arrB, Option.some.injEq, Prod.mk.injEq] at q0
          obtain ⟨_, rfl⟩ := q0
          rw [q2 hlen]
          exact view_of hR hn (ln_ne hR hL (by rw [hn]; simp) hq)
    | pv u =>
      obtain ⟨l', rd, h1, h2⟩ := argCK_ex (l := r) h
      exact ⟨_, _, h1, fun w0 F G M' w vs hrd hR hc G1 M1 hL => cons _ _ w0 F G M' w vs G1 M1 hc (fun v hv => hv) fun us hus => h2 w0 F G M' w us hrd hR hus G1 M1 hL⟩
    | view sz l =>
      obtain ⟨l', rd, h1, h2⟩ := argCK_ex (l := r) h
      exact ⟨_, _, h1, fun w0 F G M' w vs hrd hR hc G1 M1 hL => cons _ _ w0 F G M' w vs G1 M1 hc (fun v hv => view_keep hR hv (ln_F hR hL)) fun us hus => h2 w0 F G M' w us hrd hR hus G1 M1 hL⟩
    | ptr n j =>
      simp only [argCK] at h
      split at h
      · rename_i i hq
        obtain ⟨l', rd, h1, h2⟩ := argCK_ex (l := r) h
        refine ⟨_, _, h1, fun w0 F G M' w vs hrd hR hc G1 M1 hL => cons _ _ w0 F G M' w vs G1 M1 hc (fun v hv => ?_) fun us hus => h2 w0 F G M' w us hrd hR hus G1 M1 hL⟩
        have hq := lnIx_some hq
        obtain ⟨B, q1, q2, l, q3⟩ := hv
        obtain ⟨e', m1, _, m3⟩ := hL.mem i n _ hq q3
        exact ⟨B, (hL.gh i n hq).trans q1, q2, l, by rw [m1, m3 l rfl]⟩
      · rename_i hq
        obtain ⟨b, hb, h⟩ := h
        match b, h with
        | .bx l, h =>
          obtain ⟨c1, h0, hes⟩ := boxK_ex h
          obtain ⟨l', rd, h1, h2⟩ := argCK_ex (l := r) h0
          refine ⟨_, _, h1, fun w0 F G M' w vs hrd hR hc G1 M1 hL => cons _ _ w0 F G M' w vs G1 M1 hc (fun v hv => ?_) fun us hus => h2 w0 F G M' w us (fun m hm => hrd m (by simp [hm])) hR hus G1 M1 hL⟩
          have hn := (hrd n (by simp)).trans hb
          obtain ⟨B, e1, e2, _⟩ := hv
          obtain ⟨B', c, ety, f1, f2, f3, f4⟩ := hR.own n _ hn
          rw [e1] at f1
          simp at f1
          subst f1
          rw [e2]
          exact hes _ _ _ _ c w _ G1 M1 B ety _ f4 f3 ⟨(Array.getElem?_eq_some_iff.1 f3).1, ln_ne hR hL (by rw [hn]; simp) hq B (by rw [e1]; rfl)⟩ (fun v sz u hv => view_keep (G' := G1) (M' := M1) hR hv (ln_F hR hL))
        | .fl _ _ _, h => exact h.elim
        | .mp _ _, h => exact h.elim
        | .it _ _ _ _, h => exact h.elim
        | .cs _ _, h => exact h.elim
    | vptr es j =>
      obtain ⟨l', rd, h1, h2⟩ := argCK_ex (l := r) h
      exact ⟨_, _, h1, fun w0 F G M' w vs hrd hR hc G1 M1 hL => cons _ _ w0 F G M' w vs G1 M1 hc (fun v hv => by
        obtain ⟨b, o, q1, q2, q3⟩ := hv
        have hw := hR.keep b q1
        exact ⟨b, o, ⟨Nat.lt_of_lt_of_le (hR.bd b q1) hR.size, ln_F hR hL b q1⟩, q2, fun j' u hu => by rw [World.cell?_of_block (w := w0) hw]; exact q3 j' u hu⟩) fun us hus => h2 w0 F G M' w us hrd hR hus G1 M1 hL⟩
    | pvw u sz y =>
      obtain ⟨l', rd, h1, h2⟩ := argCK_ex (l := r) h
      exact ⟨_, _, h1, fun w0 F G M' w vs hrd hR hc G1 M1 hL => cons _ _ w0 F G M' w vs G1 M1 hc (fun v hv => ⟨hv.1, view_keep (G := G) (M := M') (G' := G1) (M' := M1) hR hv.2 (ln_F hR hL)⟩) fun us hus => h2 w0 F G M' w us hrd hR hus G1 M1 hL⟩
    | pview sz u =>
      obtain ⟨l', rd, h1, h2⟩ := argCK_ex (l := r) h
      exact ⟨_, _, h1, fun w0 F G M' w vs hrd hR hc G1 M1 hL => cons _ _ w0 F G M' w vs G1 M1 hc (fun v hv => by
        obtain ⟨b, o, x, q1, q2, q3, q4⟩ := hv
        have hw := hR.keep b q1
        exact ⟨b, o, x, ⟨Nat.lt_of_lt_of_le (hR.bd b q1) hR.size, ln_F hR hL b q1⟩, q2, by rw [World.cell?_of_block (w := w0) hw]; exact q3, view_keep (G' := G1) (M' := M1) (G := G) (M := M') hR q4 (ln_F hR hL)⟩) fun us hus => h2 w0 F G M' w us hrd hR hus G1 M1 hL⟩
    | _ => exact h.elim

theorem argVK_ex {ln : List Nm} {u : V} {k : V → List Nm → Prop} (h : argVK ln (lookS M) u k) : ∃ u' rd, k u' rd ∧ ∀ w0 F G M' w v, (∀ n, n ∈ rd → M' n = M n) → Rel w0 F G M' w → ConcV w0 F G M' u v → ∀ G1 M1, LnOk ln G M' G1 M1 → ConcV w (There w (lnB ln G)) G1 M1 u' v := by
  cases u with
  | c x =>
    obtain ⟨l', rd, h1, h2⟩ := argCK_ex h
    match l', h1, h2 with
    | [y], h1, h2 =>
      refine ⟨_, _, h1, fun w0 F G M' w v hrd hR hc G1 M1 hL => ?_⟩
      have := h2 w0 F G M' w [v] hrd hR ⟨rfl, fun j z hz => by
        cases j with
        | zero => simp at hz; subst hz; exact ⟨v, rfl, hc⟩
        | succ j => simp at hz⟩ G1 M1 hL
      obtain ⟨v', e1, e2⟩ := this.2 0 y rfl
      simp at e1
      subst e1
      exact e2
    | [], h1, _ => exact h1.elim
    | _ :: _ :: _, h1, _ => exact h1.elim
  | agg l =>
    obtain ⟨l', rd, h1, h2⟩ := argCK_ex h
    refine ⟨_, _, h1, fun w0 F G M' w v hrd hR hc G1 M1 hL => ?_⟩
    obtain ⟨vs, e1, e2⟩ := hc
    exact ⟨vs, e1, h2 w0 F G M' w _ hrd hR e2 G1 M1 hL⟩
  | tup l => exact h.elim
  | clo f l =>
    obtain ⟨l', rd, h1, h2⟩ := argCK_ex h
    refine ⟨_, _, h1, fun w0 F G M' w v hrd hR hc G1 M1 hL => ?_⟩
    obtain ⟨vs, e1, e2⟩ := hc
    exact ⟨vs, e1, h2 w0 F G M' w _ hrd hR e2 G1 M1 hL⟩

theorem argsK_ex {ln : List Nm} : ∀ {xs : List Operand} {xs' : List Opd} {k : List V → List Nm → Prop}, copds xs = some xs' → argsK ln (lookS M) T xs' k → ∃ us rd, k us rd ∧ us.length = xs.length ∧
    ∀ w0 F G M' T' w a, (∀ t, t ∈ xs'.flatMap opdT → T'[t]? = T[t]?) → (∀ n, n ∈ rd → M' n = M n) → Rel w0 F G M' w → TRel w0 F G M' T' a → ∀ G1 M1, LnOk ln G M' G1 M1 → ∀ (j : Nat) x v, us[j]? = some x → (xs.map a.eval)[j]? = some v → ConcV w (There w (lnB ln G)) G1 M1 x v
  | [], xs', k, hc, h => by
    simp [copds] at hc
    subst hc
    exact ⟨_, _, h, rfl, fun _ _ _ _ _ _ _ _ _ _ _ _ _ _ j x v hx => by simp at hx⟩
  | x :: r, xs', k, hc, h => by
    simp only [copds] at hc
    split at hc
    · rename_i y l hx hr
      simp only [Option.some.injEq] at hc
      subst hc
      obtain ⟨u, h1, hv⟩ := evK_ex hx h
      obtain ⟨u', rd, h2, hu⟩ := argVK_ex h1
      obtain ⟨us, rd', h3, h4, h5⟩ := argsK_ex hr h2
      refine ⟨_, _, h3, by simp [h4], fun w0 F G M' T' w a ht hrd hR hT G1 M1 hL j z v hz hvj => ?_⟩
      cases j with
      | zero =>
        simp at hz hvj
        subst hz hvj
        exact hu w0 F G M' w _ (fun n hn => hrd n (by simp [hn])) hR (hv w0 F G M' T' a (fun t h => ht t (by simp [h])) hT) G1 M1 hL
      | succ j =>
        exact h5 w0 F G M' T' w a (fun t h => ht t (by rw [List.flatMap_cons]; exact List.mem_append_right _ h)) (fun n hn => hrd n (by simp [hn])) hR hT G1 M1 hL j z v (by simpa using hz) (by simpa using hvj)
    · cases hc
end
end Go.Proofs.Ytfbadfnhnaaeeaa
