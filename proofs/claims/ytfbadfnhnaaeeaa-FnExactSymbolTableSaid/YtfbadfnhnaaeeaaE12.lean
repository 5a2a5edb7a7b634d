/- The abstract machine: a call by contract is a call. -/
import Derived.Test.YtfbadfnhnaaeeaaE11
namespace Go.Proofs.Ytfbadfnhnaaeeaa
set_option linter.unusedSimpArgs false
set_option linter.unusedVariables false
open Go.RowKit

def newsM (d : Nat) : Nat → List Blk → ML
  | _, [] => []
  | i, b :: r => ((d, i), b) :: newsM d (i + 1) r
/-- What the memory is behind the call. -/
theorem appN_news (d : Nat) : ∀ (news : List Blk) (i : Nat) (M : Mem) (n : Nm), appN (newsM d i news) M n = if n.1 = d ∧ i ≤ n.2 ∧ n.2 < i + news.length then news[n.2 - i]? else M n
  | [], i, M, n => by rw [if_neg (by intro h; have := h.2; simp at this; omega)]; rfl
  | b :: r, i, M, n => by
    simp only [newsM, appN, appN_news d r (i + 1), List.length_cons]
    by_cases c : n.1 = d ∧ i + 1 ≤ n.2 ∧ n.2 < i + 1 + r.length
    · rw [if_pos c, if_pos (by omega), show n.2 - i = (n.2 - (i + 1)) + 1 by omega]
      simp
    · rw [if_neg c]
      by_cases c2 : n = (d, i)
      · subst c2
        rw [Mem.set_self, if_pos ⟨rfl, Nat.le_refl _, by simp only; omega⟩]
        simp
      · rw [Mem.set_ne _ _ c2, if_neg]
        intro h
        exact c2 (Prod.ext h.1 (by simp only; omega))
theorem okN_news (d : Nat) : ∀ (news : List Blk) (i : Nat) (M : Mem), okN (newsM d i news) M → ∀ j, i ≤ j → j < i + news.length → M (d, j) = none
  | [], i, M, _, j, h1, h2 => by simp at h2; omega
  | b :: r, i, M, ⟨h, hr⟩, j, h1, h2 => by
    by_cases e : j = i
    · subst e; exact h
    · have := okN_news d r (i + 1) _ hr j (by omega) (by simp at h2; omega)
      rwa [Mem.set_ne _ _ (by simp <;> omega)] at this

section
variable {P : Program} {w0 : World} {F : Nat → Prop} {G : Gh} {M : Mem} {w : World} {T : List V} {a : Act} {o : Oper} {d : Nat} {K : Act → World → Prop} {Q : Exit → Act → World → Prop}

/-- The callee's memory joined to the caller's. -/
def joinG (d n : Nat) (G G2 : Gh) : Gh := fun m => if m.1 = d ∧ m.2 < n then G2 (0, m.2) else G m
theorem semL_some {l : List Blk} {n : Nm} {b : Blk} (h : semL l n = some b) : n = (0, n.2) ∧ l[n.2]? = some b := by
  obtain ⟨x, y⟩ := n
  cases x with
  | zero => exact ⟨rfl, h⟩
  | succ x => simp [semL] at h

theorem ren_conc {lo : List Nm} {news : List Blk} {G2 : Gh} {F2 : Nat → Prop} {w1 : World} (hok : ∀ i b, news[i]? = some b → ∃ x, M (renN lo d (0, i)) = some x ∧ arrB x = arrB b ∧ G (renN lo d (0, i)) = G2 (0, i)) :
    ∀ {l : List C} {k : List C → Prop}, renCK lo d l k → ∃ l', k l' ∧ ∀ vs, ConcCs w1 F2 G2 (semL news) l vs → ConcCs w0 F G M l' vs
  | [], k, h => ⟨_, h, fun vs hc => ⟨hc.1, fun j x hx => by simp at hx⟩⟩
  | x :: r, k, h => by
    have cons : ∀ (x' : C) (r' : List C) vs, ConcCs w1 F2 G2 (semL news) (x :: r) vs → (∀ v, ConcC w1 F2 G2 (semL news) x v → ConcC w0 F G M x' v) → (∀ us, ConcCs w1 F2 G2 (semL news) r us → ConcCs w0 F G M r' us) → ConcCs w0 F G M (x' :: r') vs := fun x' r' vs hc h1 h2 => by
      cases vs with
      | nil => have := hc.1; simp at this
      | cons v vs =>
        obtain ⟨v', e1, e2⟩ := hc.2 0 x rfl
        simp at e1
        subst e1
        have h3 := h2 vs ⟨by have := hc.1; simp at this; exact this, fun j y hy => hc.2 (j + 1) y hy⟩
        refine ⟨by simp [h3.1], fun j y hy => ?_⟩
        cases j with
        | zero => simp at hy; subst hy; exact ⟨v, rfl, h1 v e2⟩
        | succ j => exact h3.2 j y hy
    cases x with
    | slc n len =>
      obtain ⟨l', h1, h2⟩ := ren_conc hok (l := r) h
      refine ⟨_, h1, fun vs hc => cons _ _ vs hc (fun v hv => ?_) h2⟩
      obtain ⟨e, sz, l, q1, q0, q2, q3, q4⟩ := hv
      obtain ⟨q5, q6⟩ := semL_some q1
      obtain ⟨x2, q7, qa, q8⟩ := hok _ _ q6
      have q9 : renN lo d n = renN lo d (0, n.2) := rfl
      exact ⟨x2, sz, l, by rw [q9]; exact q7, qa.trans q0, q2, q3, fun hl => by rw [q4 hl, q9, q8, ← q5]⟩
    | pv u =>
      obtain ⟨l', h1, h2⟩ := ren_conc hok (l := r) h
      exact ⟨_, h1, fun vs hc => cons _ _ vs hc (fun v hv => hv) h2⟩
    | any =>
      obtain ⟨l', h1, h2⟩ := ren_conc hok (l := r) h
      exact ⟨_, h1, fun vs hc => cons _ _ vs hc (fun v hv => trivial) h2⟩
    | _ => exact h.elim

theorem renT_conc {lo : List Nm} {news : List Blk} {G2 : Gh} {F2 : Nat → Prop} {w1 : World} (hok : ∀ i b, news[i]? = some b → ∃ x, M (renN lo d (0, i)) = some x ∧ arrB x = arrB b ∧ G (renN lo d (0, i)) = G2 (0, i)) :
    ∀ {l : List (Bool × List C)} {k : List (Bool × List C) → Prop}, renTK lo d l k → ∃ l', k l' ∧ l'.length = l.length ∧ ∀ (j : Nat) p' , l'[j]? = some p' → ∃ p, l[j]? = some p ∧ ∀ v, Conc1 w1 F2 G2 (semL news) p v → Conc1 w0 F G M p' v
  | [], k, h => ⟨_, h, rfl, fun j p hp => by simp at hp⟩
  | (b, x) :: r, k, h => by
    obtain ⟨x', h1, h2⟩ := ren_conc (w0 := w0) (F := F) (w1 := w1) (F2 := F2) hok h
    obtain ⟨l', h3, h4, h5⟩ := renT_conc hok h1
    refine ⟨_, h3, by simp [h4], fun j p' hp => ?_⟩
    cases j with
    | zero =>
      simp at hp
      subst hp
      refine ⟨_, rfl, fun v hv => ?_⟩
      cases b with
      | false =>
        obtain ⟨y, rfl, hy⟩ := hv
        have := h2 [v] ⟨rfl, fun j z hz => by
          cases j with
          | zero => simp at hz; subst hz; exact ⟨v, rfl, hy⟩
          | succ j => simp at hz⟩
        have hl := this.1
        match x', hl, this with
        | [y'], _, this =>
          obtain ⟨v', e1, e2⟩ := this.2 0 y' rfl
          simp at e1
          subst e1
          exact ⟨_, rfl, e2⟩
      | true =>
        obtain ⟨vs, e1, e2⟩ := hv
        exact ⟨vs, e1, h2 _ e2⟩
    | succ j =>
      obtain ⟨p, e1, e2⟩ := h5 j p' (by simpa using hp)
      exact ⟨p, by simpa using e1, e2⟩

theorem renK_conc {lo : List Nm} {news : List Blk} {G2 : Gh} {F2 : Nat → Prop} {w1 : World} (hok : ∀ i b, news[i]? = some b → ∃ x, M (renN lo d (0, i)) = some x ∧ arrB x = arrB b ∧ G (renN lo d (0, i)) = G2 (0, i)) {u : V} {k : V → Prop} (h : renK lo d u k) :
    ∃ u', k u' ∧ ∀ v, ConcV w1 F2 G2 (semL news) u v → ConcV w0 F G M u' v := by
  cases u with
  | c x =>
    obtain ⟨l', h1, h2⟩ := ren_conc (w0 := w0) (F := F) (w1 := w1) (F2 := F2) hok h
    match l', h1, h2 with
    | [y], h1, h2 =>
      refine ⟨_, h1, fun v hv => ?_⟩
      have := h2 [v] ⟨rfl, fun j z hz => by
        cases j with
        | zero => simp at hz; subst hz; exact ⟨v, rfl, hv⟩
        | succ j => simp at hz⟩
      obtain ⟨v', e1, e2⟩ := this.2 0 y rfl
      simp at e1
      subst e1
      exact e2
    | [], h1, _ => exact h1.elim
    | _ :: _ :: _, h1, _ => exact h1.elim
  | agg l =>
    obtain ⟨l', h1, h2⟩ := ren_conc (w0 := w0) (F := F) (w1 := w1) (F2 := F2) hok h
    exact ⟨_, h1, fun v ⟨vs, e1, e2⟩ => ⟨vs, e1, h2 _ e2⟩⟩
  | tup l =>
    obtain ⟨l', h1, h2, h3⟩ := renT_conc (w0 := w0) (F := F) (w1 := w1) (F2 := F2) hok h
    refine ⟨_, h1, fun v ⟨vs, e1, e2, e3⟩ => ⟨vs, e1, by rw [e2, h2], fun j p' hp => ?_⟩⟩
    obtain ⟨p, q1, q2⟩ := h3 j p' hp
    obtain ⟨u, q3, q4⟩ := e3 j p q1
    exact ⟨u, q3, q2 u q4⟩
  | clo f l => exact h.elim
/-- The renamed result does not hang on the state. -/
theorem renCK_det {lo : List Nm} {d : Nat} : ∀ {l : List C} {k : List C → Prop}, renCK lo d l k → ∃ l', k l' ∧ ∀ k' : List C → Prop, k' l' → renCK lo d l k'
  | [], k, h => ⟨_, h, fun _ h => h⟩
  | .slc n len :: r, k, h => let ⟨l', h1, h2⟩ := renCK_det (l := r) h; ⟨_, h1, fun k' hk => h2 _ hk⟩
  | .pv v :: r, k, h => let ⟨l', h1, h2⟩ := renCK_det (l := r) h; ⟨_, h1, fun k' hk => h2 _ hk⟩
  | .any :: r, k, h => let ⟨l', h1, h2⟩ := renCK_det (l := r) h; ⟨_, h1, fun k' hk => h2 _ hk⟩
  | .ptr _ _ :: _, _, h => h.elim
  | .eptr _ _ _ _ :: _, _, h => h.elim
  | .view _ _ :: _, _, h => h.elim
  | .vptr _ _ :: _, _, h => h.elim
  | .sub _ _ _ _ :: _, _, h => h.elim
  | .ref _ :: _, _, h => h.elim
  | .pview _ _ :: _, _, h => h.elim
  | .pvw _ _ _ :: _, _, h => h.elim
theorem renTK_det {lo : List Nm} {d : Nat} : ∀ {l : List (Bool × List C)} {k : List (Bool × List C) → Prop}, renTK lo d l k → ∃ l', k l' ∧ ∀ k' : List (Bool × List C) → Prop, k' l' → renTK lo d l k'
  | [], k, h => ⟨_, h, fun _ h => h⟩
  | (b, x) :: r, k, h => by
    obtain ⟨x', h1, h2⟩ := renCK_det h
    obtain ⟨l', h3, h4⟩ := renTK_det h1
    exact ⟨_, h3, fun k' hk => h2 _ (h4 _ hk)⟩
theorem renK_det {lo : List Nm} {d : Nat} {u : V} {k : V → Prop} (h : renK lo d u k) : ∃ u', k u' ∧ ∀ k' : V → Prop, k' u' → renK lo d u k' := by
  cases u with
  | c x =>
    obtain ⟨l', h1, h2⟩ := renCK_det h
    match l', h1, h2 with
    | [y], h1, h2 => exact ⟨_, h1, fun k' hk => h2 _ hk⟩
    | [], h1, _ => exact h1.elim
    | _ :: _ :: _, h1, _ => exact h1.elim
  | agg l => obtain ⟨l', h1, h2⟩ := renCK_det h; exact ⟨_, h1, fun k' hk => h2 _ hk⟩
  | tup l => obtain ⟨l', h1, h2⟩ := renTK_det h; exact ⟨_, h1, fun k' hk => h2 _ hk⟩
  | clo f l => exact h.elim
theorem renCK_len {lo : List Nm} {d : Nat} : ∀ {l : List C} {k : List C → Prop}, renCK lo d l k → ∃ l', k l' ∧ l'.length = l.length
  | [], k, h => ⟨_, h, rfl⟩
  | .slc n len :: r, k, h => let ⟨l', h1, h2⟩ := renCK_len (l := r) h; ⟨_, h1, by simp [h2]⟩
  | .pv v :: r, k, h => let ⟨l', h1, h2⟩ := renCK_len (l := r) h; ⟨_, h1, by simp [h2]⟩
  | .any :: r, k, h => let ⟨l', h1, h2⟩ := renCK_len (l := r) h; ⟨_, h1, by simp [h2]⟩
  | .ptr _ _ :: _, _, h => h.elim
  | .eptr _ _ _ _ :: _, _, h => h.elim
  | .view _ _ :: _, _, h => h.elim
  | .vptr _ _ :: _, _, h => h.elim
  | .sub _ _ _ _ :: _, _, h => h.elim
  | .ref _ :: _, _, h => h.elim
  | .pview _ _ :: _, _, h => h.elim
  | .pvw _ _ _ :: _, _, h => h.elim
/-- A block and the same with the caller's names. -/
def RnB (lo : List Nm) (d : Nat) (b x : Blk) : Prop := match b with
  | .cs e l => ∃ l', x = .cs e l' ∧ renCK lo d l fun l2 => l2 = l'
  | .fl e sz l => x = .fl e sz l
  | .bx l => x = .bx l
  | _ => False
theorem RnB.arr {lo : List Nm} {d : Nat} {b x : Blk} (h : RnB lo d b x) : arrB x = arrB b := by
  cases b with
  | fl e sz l => obtain rfl := h; rfl
  | bx l => obtain rfl := h; rfl
  | cs e l =>
    obtain ⟨l', rfl, h⟩ := h
    obtain ⟨l2, rfl, h2⟩ := renCK_len h
    simp [arrB, h2]
  | mp _ _ => exact h.elim
  | it _ _ _ _ => exact h.elim
theorem newsK_ex {lo : List Nm} {d : Nat} : ∀ {news : List Blk} {i : Nat} {k : ML → Prop}, newsK lo d i news k → ∃ n2, k (newsM d i n2) ∧ n2.length = news.length ∧ (∀ (j : Nat) b, news[j]? = some b → ∃ x, n2[j]? = some x ∧ RnB lo d b x) ∧ ∀ b ∈ news, (∃ e sz l, b = .fl e sz l) ∨ ∃ e l, b = .cs e l
  | [], _, _, h => ⟨[], h, rfl, fun j b hb => by simp at hb, fun b hb => by simp at hb⟩
  | .fl e sz l :: r, i, k, h => by
    obtain ⟨n2, h1, h2, h3, h4⟩ := newsK_ex (news := r) h
    refine ⟨.fl e sz l :: n2, h1, by simp [h2], fun j b hb => ?_, fun b hb => ?_⟩
    · cases j with
      | zero => simp at hb; subst hb; exact ⟨_, rfl, rfl⟩
      | succ j => simpa using h3 j b (by simpa using hb)
    · rcases List.mem_cons.1 hb with rfl | hb
      · exact .inl ⟨_, _, _, rfl⟩
      · exact h4 b hb
  | .cs e l :: r, i, k, h => by
    obtain ⟨l', h0, hl⟩ := renCK_det h
    obtain ⟨n2, h1, h2, h3, h4⟩ := newsK_ex (news := r) h0
    refine ⟨.cs e l' :: n2, h1, by simp [h2], fun j b hb => ?_, fun b hb => ?_⟩
    · cases j with
      | zero => simp at hb; subst hb; exact ⟨_, rfl, _, rfl, hl _ rfl⟩
      | succ j => simpa using h3 j b (by simpa using hb)
    · rcases List.mem_cons.1 hb with rfl | hb
      · exact .inr ⟨_, _, rfl⟩
      · exact h4 b hb
  | .bx _ :: _, _, _, h => h.elim
  | .mp _ _ :: _, _, _, h => h.elim
  | .it _ _ _ _ :: _, _, _, h => h.elim
theorem rnBsK_ex {lo : List Nm} {d : Nat} : ∀ {bs : List Blk} {k : List Blk → Prop}, rnBsK lo d bs k → ∃ b2, k b2 ∧ b2.length = bs.length ∧ ∀ (j : Nat) b, bs[j]? = some b → ∃ x, b2[j]? = some x ∧ RnB lo d b x
  | [], _, h => ⟨[], h, rfl, fun j b hb => by simp at hb⟩
  | .fl e sz l :: r, k, h => by
    obtain ⟨n2, h1, h2, h3⟩ := rnBsK_ex (bs := r) h
    refine ⟨.fl e sz l :: n2, h1, by simp [h2], fun j b hb => ?_⟩
    cases j with
    | zero => simp at hb; subst hb; exact ⟨_, rfl, rfl⟩
    | succ j => simpa using h3 j b (by simpa using hb)
  | .bx l :: r, k, h => by
    obtain ⟨n2, h1, h2, h3⟩ := rnBsK_ex (bs := r) h
    refine ⟨.bx l :: n2, h1, by simp [h2], fun j b hb => ?_⟩
    cases j with
    | zero => simp at hb; subst hb; exact ⟨_, rfl, rfl⟩
    | succ j => simpa using h3 j b (by simpa using hb)
  | .cs e l :: r, k, h => by
    obtain ⟨l', h0, hl⟩ := renCK_det h
    obtain ⟨n2, h1, h2, h3⟩ := rnBsK_ex (bs := r) h0
    refine ⟨.cs e l' :: n2, h1, by simp [h2], fun j b hb => ?_⟩
    cases j with
    | zero => simp at hb; subst hb; exact ⟨_, rfl, _, rfl, hl _ rfl⟩
    | succ j => simpa using h3 j b (by simpa using hb)
  | .mp _ _ :: _, _, h => h.elim
  | .it _ _ _ _ :: _, _, h => h.elim
/-- A block and the same with the callee's names. -/
def LnB (ln : List Nm) (b x : Blk) : Prop := match b with
  | .cs e l => ∃ l', x = .cs e l' ∧ l'.length = l.length ∧ ∀ (j : Nat) y, l'[j]? = some y → ∃ n len i, l[j]? = some (.slc n len) ∧ ln[i]? = some n ∧ y = .slc (0, i) len
  | .fl e sz l => x = .fl e sz l
  | .bx l => x = .bx l
  | _ => False
theorem LnB.arr {ln : List Nm} {b x : Blk} (h : LnB ln b x) : arrB x = arrB b := by
  cases b with
  | fl e sz l => obtain rfl := h; rfl
  | bx l => obtain rfl := h; rfl
  | cs e l =>
    obtain ⟨l', rfl, h2, _⟩ := h
    simp [arrB, h2]
  | mp _ _ => exact h.elim
  | it _ _ _ _ => exact h.elim
theorem lnCK_ex {ln : List Nm} : ∀ {l : List C} {k : List C → Prop}, lnCK ln l k → ∃ l', k l' ∧ l'.length = l.length ∧ ∀ (j : Nat) y, l'[j]? = some y → ∃ n len i, l[j]? = some (.slc n len) ∧ ln[i]? = some n ∧ y = .slc (0, i) len
  | [], _, h => ⟨[], h, rfl, fun j y hy => by simp at hy⟩
  | .slc n len :: r, k, h => by
    simp only [lnCK] at h
    split at h
    · rename_i i hi
      obtain ⟨l', h1, h2, h3⟩ := lnCK_ex h
      refine ⟨_, h1, by simp [h2], fun j y hy => ?_⟩
      cases j with
      | zero => simp at hy; subst hy; exact ⟨n, len, i, rfl, lnIx_some hi, rfl⟩
      | succ j => simpa using h3 j y (by simpa using hy)
    · exact h.elim
  | .pv _ :: _, _, h => h.elim
  | .any :: _, _, h => h.elim
  | .ptr _ _ :: _, _, h => h.elim
  | .eptr _ _ _ _ :: _, _, h => h.elim
  | .view _ _ :: _, _, h => h.elim
  | .vptr _ _ :: _, _, h => h.elim
  | .sub _ _ _ _ :: _, _, h => h.elim
  | .ref _ :: _, _, h => h.elim
  | .pview _ _ :: _, _, h => h.elim
  | .pvw _ _ _ :: _, _, h => h.elim
theorem lnBsK_ex {ln : List Nm} : ∀ {bs : List Blk} {k : List Blk → Prop}, lnBsK ln bs k → ∃ b2, k b2 ∧ b2.length = bs.length ∧ ∀ (j : Nat) b, bs[j]? = some b → ∃ x, b2[j]? = some x ∧ LnB ln b x
  | [], _, h => ⟨[], h, rfl, fun j b hb => by simp at hb⟩
  | .fl e sz l :: r, k, h => by
    obtain ⟨n2, h1, h2, h3⟩ := lnBsK_ex (bs := r) h
    refine ⟨.fl e sz l :: n2, h1, by simp [h2], fun j b hb => ?_⟩
    cases j with
    | zero => simp at hb; subst hb; exact ⟨_, rfl, rfl⟩
    | succ j => simpa using h3 j b (by simpa using hb)
  | .bx l :: r, k, h => by
    obtain ⟨n2, h1, h2, h3⟩ := lnBsK_ex (bs := r) h
    refine ⟨.bx l :: n2, h1, by simp [h2], fun j b hb => ?_⟩
    cases j with
    | zero => simp at hb; subst hb; exact ⟨_, rfl, rfl⟩
    | succ j => simpa using h3 j b (by simpa using hb)
  | .cs e l :: r, k, h => by
    obtain ⟨l', h0, hl, hl2⟩ := lnCK_ex h
    obtain ⟨n2, h1, h2, h3⟩ := lnBsK_ex (bs := r) h0
    refine ⟨.cs e l' :: n2, h1, by simp [h2], fun j b hb => ?_⟩
    cases j with
    | zero => simp at hb; subst hb; exact ⟨_, rfl, l', rfl, hl, hl2⟩
    | succ j => simpa using h3 j b (by simpa using hb)
  | .mp _ _ :: _, _, h => h.elim
  | .it _ _ _ _ :: _, _, h => h.elim
end
end Go.Proofs.Ytfbadfnhnaaeeaa
