/- The abstract machine: regions that draw their order. -/
import Derived.Test.YtfbadfnhnaaeeaaE15
namespace Go.Proofs.Ytfbadfnhnaaeeaa
set_option linter.unusedSimpArgs false
set_option linter.unusedVariables false
open Go.RowKit

/-- What one operation did: what it looked at, what it yields. -/
structure Step where
  dst : Option Nat
  ins : List (Nat × Option V)
  rd : List (Nm × Option Blk)
  res : V
  eff : Eff
abbrev St := List V × Mem
def putL (dst : Option Nat) (v : V) (T : List V) : List V := match dst with
  | some d => T.set d v
  | none => T
def Step.App (S : Step) (s : St) : Prop := (∀ p ∈ S.ins, s.1[p.1]? = p.2) ∧ ∀ p ∈ S.rd, s.2 p.1 = p.2
def Step.next (S : Step) (s : St) : St := (putL S.dst S.res s.1, S.eff.app s.2)
structure Step.Indep (S S' : Step) : Prop where
  d1 : ∀ d, S.dst = some d → (∀ p ∈ S'.ins, p.1 ≠ d) ∧ S'.dst ≠ some d
  d2 : ∀ d, S'.dst = some d → ∀ p ∈ S.ins, p.1 ≠ d
  n1 : ∀ n, n ∈ effN S.eff → (∀ p ∈ S'.rd, p.1 ≠ n) ∧ n ∉ effN S'.eff
  n2 : ∀ n, n ∈ effN S'.eff → ∀ p ∈ S.rd, p.1 ≠ n

theorem appN_out : ∀ {l : ML} {M : Mem} {n : Nm}, n ∉ l.map (·.1) → appN l M n = M n
  | [], _, _, _ => rfl
  | (q, b) :: r, M, n, h => by
    simp only [List.map_cons, List.mem_cons, not_or] at h
    rw [appN, appN_out h.2, Mem.set_ne _ _ h.1]
theorem appN_in : ∀ {l : ML} {M M' : Mem} {n : Nm}, n ∈ l.map (·.1) → appN l M n = appN l M' n
  | [], _, _, _, h => by cases h
  | (q, b) :: r, M, M', n, h => by
    by_cases hr : n ∈ r.map (·.1)
    · exact appN_in (l := r) hr
    · have hq : n = q := by simpa [hr] using h
      subst hq
      rw [appN, appN, appN_out hr, appN_out hr, Mem.set_self, Mem.set_self]
theorem eff_out {e : Eff} {M : Mem} {n : Nm} (h : n ∉ effN e) : e.app M n = M n := by
  cases e with
  | non => rfl
  | new l => exact appN_out h
  | upd q b => exact Mem.set_ne _ _ (by simpa [effN] using h)
  | lent us l =>
    simp only [effN, List.mem_append, not_or] at h
    simp only [Eff.app]
    rw [appN_out h.2, appN_out h.1]
theorem eff_in {e : Eff} {M M' : Mem} {n : Nm} (h : n ∈ effN e) : e.app M n = e.app M' n := by
  cases e with
  | non => cases h
  | new l => exact appN_in h
  | upd q b =>
    obtain rfl : n = q := by simpa [effN] using h
    simp [Eff.app, Mem.set_self]
  | lent us l =>
    simp only [effN, List.mem_append] at h
    simp only [Eff.app]
    by_cases hl : n ∈ l.map (·.1)
    · exact appN_in hl
    · rw [appN_out hl, appN_out hl]
      exact appN_in (h.resolve_right hl)
theorem putL_ne {dst : Option Nat} {v : V} {T : List V} {i : Nat} (h : dst ≠ some i) : (putL dst v T)[i]? = T[i]? := by
  cases dst with
  | none => rfl
  | some d => exact List.getElem?_set_ne (fun e => h (by rw [e]))

/-- Two that do not touch each other may change places. -/
theorem Step.swap {S S' : Step} {s : St} (hi : S.Indep S') (h1 : S.App s) (h2 : S'.App (S.next s)) : S'.App s ∧ S.App (S'.next s) ∧ S.next (S'.next s) = S'.next (S.next s) := by
  refine ⟨⟨fun p hp => ?_, fun p hp => ?_⟩, ⟨fun p hp => ?_, fun p hp => ?_⟩, ?_⟩
  · rw [← h2.1 p hp]
    exact (putL_ne (fun e => (hi.d1 _ e).1 p hp rfl)).symm
  · rw [← h2.2 p hp]
    exact (eff_out (fun e => (hi.n1 _ e).1 p hp rfl)).symm
  · rw [← h1.1 p hp]
    exact putL_ne (fun e => hi.d2 _ e p hp rfl)
  · rw [← h1.2 p hp]
    exact eff_out (fun e => hi.n2 _ e p hp rfl)
  · refine Prod.ext ?_ (funext fun n => ?_)
    · simp only [Step.next, putL]
      cases hd : S.dst with
      | none => rfl
      | some d =>
        cases hd' : S'.dst with
        | none => rfl
        | some d' =>
          simp only
          exact (List.set_comm _ _ (fun e => (hi.d1 d hd).2 (by rw [hd', e]))).symm
    · simp only [Step.next]
      by_cases c1 : n ∈ effN S.eff
      · have c2 := (hi.n1 n c1).2
        rw [eff_out c2]
        exact eff_in c1
      · rw [eff_out c1]
        by_cases c2 : n ∈ effN S'.eff
        · exact eff_in c2
        · rw [eff_out c2, eff_out c2, eff_out c1]

/-- Those that are not listed yet, one behind the other. -/
def RunsU (li : Array Bool) : List Step → Nat → St → St → Prop
  | [], _, s, f => s = f
  | S :: r, i, s, f => if li.getD i true = true then RunsU li r (i + 1) s f else S.App s ∧ RunsU li r (i + 1) (S.next s) f
theorem runsU_congr {li li' : Array Bool} : ∀ {l : List Step} {i : Nat} {s f : St}, (∀ q, i ≤ q → q < i + l.length → li'.getD q true = li.getD q true) → RunsU li l i s f → RunsU li' l i s f
  | [], _, _, _, _, h => h
  | S :: r, i, s, f, hq, h => by
    simp only [RunsU] at h ⊢
    rw [hq i (Nat.le_refl _) (by simp)]
    split
    · rename_i c; rw [if_pos c] at h; exact runsU_congr (fun q h1 h2 => hq q (by omega) (by simp at h2 ⊢; omega)) h
    · rename_i c; rw [if_neg c] at h; exact ⟨h.1, runsU_congr (fun q h1 h2 => hq q (by omega) (by simp at h2 ⊢; omega)) h.2⟩
/-- One that is ready may come first. -/
theorem runsU_take {li : Array Bool} {j : Nat} {Sj : Step} (hj : li.getD j true = false) : ∀ {l : List Step} {i : Nat} {s f : St}, i ≤ j → l[j - i]? = some Sj → (∀ q S, i ≤ q → q < j → l[q - i]? = some S → li.getD q true = false → S.Indep Sj) → RunsU li l i s f →
    Sj.App s ∧ RunsU (li.setIfInBounds j true) l i (Sj.next s) f
  | [], i, s, f, _, hl, _, _ => by simp at hl
  | S :: r, i, s, f, hij, hl, hind, h => by
    have hset : ∀ q, q ≠ j → (li.setIfInBounds j true).getD q true = li.getD q true := fun q hq => by simp [Array.getElem?_setIfInBounds_ne (Ne.symm hq)]
    have hself : (li.setIfInBounds j true).getD j true = true := by
      rcases Nat.lt_or_ge j li.size with hlt | hge
      · simp [hlt]
      · simp [hge]
    simp only [RunsU] at h ⊢
    by_cases e : i = j
    · subst e
      simp at hl
      subst hl
      rw [if_neg (by rw [hj]; simp)] at h
      rw [if_pos hself]
      exact ⟨h.1, runsU_congr (fun q h1 _ => hset q (by omega)) h.2⟩
    · have hl' : r[j - (i + 1)]? = some Sj := by
        rw [show j - i = (j - (i + 1)) + 1 by omega] at hl
        simpa using hl
      have hind' : ∀ q S', i + 1 ≤ q → q < j → r[q - (i + 1)]? = some S' → li.getD q true = false → S'.Indep Sj := fun q S' h1 h2 h3 h4 => hind q S' (by omega) h2 (by rw [show q - i = (q - (i + 1)) + 1 by omega]; simpa using h3) h4
      rw [hset i e]
      split
      · rename_i c
        rw [if_pos c] at h
        exact runsU_take hj (by omega) hl' hind' h
      · rename_i c
        rw [if_neg c] at h
        obtain ⟨h1, h2⟩ := runsU_take hj (by omega) hl' hind' h.2
        obtain ⟨q1, q2, q3⟩ := Step.swap (hind i S (Nat.le_refl _) (by omega) (by simp) (by simpa using c)) h.1 h1
        exact ⟨q1, q2, by rw [q3]; exact h2⟩

section
variable {P : Program} {w0 : World} {F : Nat → Prop} {pins : List (C × Value)} {Q : Exit → Act → World → Prop} {ops : Array Oper}

/-- A state of the abstract machine stands for one of Go's. -/
def RelM (w0 : World) (F : Nat → Prop) (pins : List (C × Value)) (s : St) (a : Act) (w : World) : Prop :=
  ∃ G, Rel w0 F G s.2 w ∧ TRel w0 F G s.2 s.1 a ∧ ∀ p, p ∈ pins → ConcC w0 F G s.2 p.1 p.2
/-- A step is what operation i does, wherever it applies. -/
def StepOk (P : Program) (w0 : World) (F : Nat → Prop) (pins : List (C × Value)) (ops : Array Oper) (Q : Exit → Act → World → Prop) (i : Nat) (S : Step) : Prop :=
  ∀ s a w K, S.App s → RelM w0 F pins s a w → (∀ a' w', RelM w0 F pins (S.next s) a' w' → K a' w') → wpOp P ops Q i K a w

theorem cnt_set {n j : Nat} {li : Array Bool} (hj : li.getD j true = false) (hn : j < n) : ((List.range n).filter fun i => !(li.setIfInBounds j true).getD i true).length < ((List.range n).filter fun i => !li.getD i true).length := by
  have hlt : j < li.size := by
    rcases Nat.lt_or_ge j li.size with h | h
    · exact h
    · simp [h] at hj
  have sub : ∀ i, (!(li.setIfInBounds j true).getD i true) = true → (!li.getD i true) = true := fun i hi => by
    by_cases e : j = i
    · subst e; simp [hlt] at hi
    · simpa [Array.getElem?_setIfInBounds_ne e] using hi
  have gen : ∀ (l : List Nat) (p q : Nat → Bool), (∀ i, p i = true → q i = true) → (∃ i ∈ l, p i = false ∧ q i = true) → (l.filter p).length < (l.filter q).length := by
    intro l p q hpq
    have le : ∀ l : List Nat, (l.filter p).length ≤ (l.filter q).length := by
      intro l
      induction l with
      | nil => simp
      | cons x l ih =>
        simp only [List.filter_cons]
        by_cases hp : p x = true
        · rw [if_pos hp, if_pos (hpq x hp)]; simp; exact ih
        · rw [if_neg hp]
          split
          · simp; omega
          · exact ih
    induction l with
    | nil => rintro ⟨i, hi, _⟩; cases hi
    | cons x l ih =>
      rintro ⟨i, hi, h1, h2⟩
      simp only [List.filter_cons]
      rcases List.mem_cons.1 hi with rfl | hi
      · rw [if_neg (by rw [h1]; simp), if_pos h2]
        have := le l
        simp; omega
      · by_cases hp : p x = true
        · rw [if_pos hp, if_pos (hpq x hp)]; simp; exact ih ⟨i, hi, h1, h2⟩
        · rw [if_neg hp]
          have := ih ⟨i, hi, h1, h2⟩
          split
          · simp; omega
          · exact this
  exact gen _ _ _ sub ⟨j, List.mem_range.2 hn, by simp [hlt], by rw [hj]; rfl⟩

/-- ANY ORDER comes to the same end. -/
theorem any_sound {steps : List Step} (hlen : steps.length = ops.size) (hok : ∀ i S, steps[i]? = some S → StepOk P w0 F pins ops Q i S)
    (hback : ∀ i o, ops[i]? = some o → ∀ e ∈ o.after, Region.binds .any e = true → e.on < i)
    (hind : ∀ i j S S' o, i < j → steps[i]? = some S → steps[j]? = some S' → ops[j]? = some o → (¬ ∃ e ∈ o.after, Region.binds .any e = true ∧ e.on = i) → S.Indep S') {f : St} (hQ : ∀ a w, RelM w0 F pins f a w → Q .normal a w) :
    ∀ (fuel : Nat) (li : Array Bool) (s : St) (a : Act) (w : World), ((List.range ops.size).filter fun i => !li.getD i true).length ≤ fuel → RunsU li steps 0 s f → RelM w0 F pins s a w → wpAny P .any ops Q fuel li a w := by
  have unready : ∀ (li : Array Bool) (s : St) (a : Act) (w : World), Region.ready .any ops li = [] → RunsU li steps 0 s f → RelM w0 F pins s a w → Q .normal a w := fun li s a w hr hrun hR => by
    have all : ∀ i, i < ops.size → li.getD i true = true := fun i => by
      induction i using Nat.strongRecOn with
      | _ i ih =>
        intro hi
        cases hb : li.getD i true with
        | true => rfl
        | false =>
          have : i ∈ Region.ready .any ops li := by
            rw [mem_ready]
            refine ⟨hb, ops[i], Array.getElem?_eq_getElem hi, fun e he hbe => ?_⟩
            have h1 := hback i _ (Array.getElem?_eq_getElem hi) e he hbe
            have h2 := ih e.on h1 (by omega)
            rcases Nat.lt_or_ge e.on li.size with h3 | h3
            · simpa [h3] using h2
            · exfalso
              have : li.size ≤ i := by omega
              simp [this] at hb
          rw [hr] at this
          cases this
    have done : ∀ (l : List Step) (i : Nat) (s : St), i + l.length ≤ ops.size → RunsU li l i s f → s = f := by
      intro l
      induction l with
      | nil => intro i s _ h; exact h
      | cons S r ih =>
        intro i s hi h
        simp only [RunsU] at h
        rw [if_pos (all i (by simp at hi; omega))] at h
        exact ih (i + 1) s (by simp at hi; omega) h
    have := done steps 0 s (by omega) hrun
    subst this
    exact hQ a w hR
  intro fuel
  induction fuel with
  | zero =>
    intro li s a w hc hrun hR
    have hr : Region.ready .any ops li = [] := by
      cases he : Region.ready .any ops li with
      | nil => rfl
      | cons x r =>
        have hx : x ∈ Region.ready .any ops li := by rw [he]; simp
        obtain ⟨h1, o, h2, _⟩ := mem_ready.1 hx
        have hlt := (Array.getElem?_eq_some_iff.1 h2).1
        have : x ∈ (List.range ops.size).filter fun i => !li.getD i true := List.mem_filter.2 ⟨List.mem_range.2 hlt, by simp at h1 ⊢; exact h1⟩
        have := List.length_pos_of_mem this
        omega
    exact ⟨hr, unready li s a w hr hrun hR⟩
  | succ fuel ih =>
    intro li s a w hc hrun hR
    refine ⟨fun hr => unready li s a w hr hrun hR, fun j hj => ?_⟩
    obtain ⟨h1, o, h2, h3⟩ := mem_ready.1 hj
    have hlt := (Array.getElem?_eq_some_iff.1 h2).1
    have hS : steps[j]? = some steps[j] := List.getElem?_eq_getElem (by omega)
    obtain ⟨q1, q2⟩ := runsU_take h1 (Nat.zero_le _) (by rw [Nat.sub_zero]; exact hS) (fun q S _ hq hSq hun => by
      refine hind q j S _ o hq (by simpa using hSq) hS h2 fun ⟨e, he, hbe, heq⟩ => ?_
      have := h3 e he hbe
      rw [heq] at this
      have hq' : q < li.size := by
        rcases Nat.lt_or_ge q li.size with h | h
        · exact h
        · simp [h] at hun
      simp [hq'] at this hun
      rw [this] at hun
      cases hun) hrun
    refine hok j _ hS s a w _ q1 hR fun a' w' hR' => ih _ _ a' w' ?_ q2 hR'
    have := cnt_set (n := ops.size) h1 hlt
    omega

/-! ### the steps out of a walk -/
def Step.entry (S : Step) (e : LE) : Prop := e.dst = S.dst ∧ (∀ p ∈ S.ins, p.1 ∈ e.ts) ∧ (∀ p ∈ S.rd, p.1 ∈ e.rd ∨ p.1 ∈ effN S.eff) ∧ effN S.eff = e.wr

/-- An operation that is carried out, as a step. gt: the guard's temporary. -/
theorem step_run {o : Oper} {ao : AOp} {i : Nat} (hi : ops[i]? = some o) (hc : cop P (o.dst.getD 0) o = some ao) {T : List V} {m : ML} {lg : List LE} (gt : List Nat) (hg : ∀ s a w, (∀ t ∈ gt, s.1[t]? = T[t]?) → RelM w0 F pins s a w → Region.wanted o (yielded ops a.tmps) = true)
    {k : List LE → List V → ML → Prop} (h : opA P (o.dst.getD 0) T (lookK m) (fun res eff rd => effK eff m fun m' => putK o.dst res T fun T' => k (⟨o.dst, gt ++ tmpsA ao, rd, effN eff⟩ :: lg) T' m') ao) :
    ∃ S e T' m', StepOk P w0 F pins ops Q i S ∧ S.App (T, sem m) ∧ S.next (T, sem m) = (T', sem m') ∧ S.entry e ∧ k (e :: lg) T' m' := by
  rw [lookK_S] at h
  obtain ⟨res, eff, rd, h1, h2⟩ := cop_sound hc h
  obtain ⟨h3, m', h4, h5⟩ := effK_ex h1
  have hput : k (⟨o.dst, gt ++ tmpsA ao, rd, effN eff⟩ :: lg) (putL o.dst res T) m' := by
    cases hd : o.dst with
    | none => rw [hd] at h5; exact h5
    | some d => rw [hd] at h5; exact (setK_iff.1 h5).2
  have hputT : ∀ {G : Gh} {M : Mem} {T : List V} {a : Act} {v : Value}, TRel w0 F G M T a → ConcV w0 F G M res v → TRel w0 F G M (putL o.dst res T) (a.put o.dst v) := fun hT hv => by
    cases hd : o.dst with
    | none => exact hT
    | some d => exact hT.set hv
  refine ⟨⟨o.dst, (gt ++ tmpsA ao).map fun t => (t, T[t]?), (rd ++ effN eff).map fun n => (n, sem m n), res, eff⟩, _, _, m', ?_, ⟨fun p hp => ?_, fun p hp => ?_⟩, ?_, ⟨rfl, fun p hp => ?_, fun p hp => ?_, rfl⟩, hput⟩
  · intro s a w K happ hR hK
    obtain ⟨hA1, hA2⟩ := happ
    have hts : ∀ t, t ∈ gt ++ tmpsA ao → s.1[t]? = T[t]? := fun t ht => hA1 (t, T[t]?) (List.mem_map.2 ⟨t, ht, rfl⟩)
    have hw := hg s a w (fun t ht => hts t (List.mem_append_left _ ht)) hR
    unfold wpOp
    simp only [hi]
    rw [if_pos hw]
    obtain ⟨G, r1, r2, r3⟩ := hR
    have hrd : ∀ n, n ∈ rd ++ effN eff → s.2 n = sem m n := fun n hn => hA2 (n, sem m n) (List.mem_map.2 ⟨n, hn, rfl⟩)
    have hok : eff.ok s.2 := by
      have gen : ∀ (l : ML) (M M' : Mem), (∀ n, n ∈ l.map (·.1) → M' n = M n) → okN l M → okN l M' := by
        intro l
        induction l with
        | nil => intro _ _ _ _; trivial
        | cons p r ih =>
          obtain ⟨n, b⟩ := p
          intro M M' hn ⟨h1, h2⟩
          refine ⟨by rw [hn n (by simp)]; exact h1, ih (M.set n b) (M'.set n b) (fun q hq => ?_) h2⟩
          by_cases e : q = n
          · subst e; rw [Mem.set_self, Mem.set_self]
          · rw [Mem.set_ne _ _ e, Mem.set_ne _ _ e]; exact hn q (by simp only [List.map_cons, List.mem_cons]; exact .inr hq)
      cases eff with
      | non => trivial
      | new l => exact gen l _ _ (fun n hn => hrd n (List.mem_append_right _ hn)) h3
      | upd n b =>
        show (s.2 n).isSome = true
        rw [hrd n (by simp [effN])]
        exact h3
      | lent us l =>
        have genU : ∀ (us : ML) (M M' : Mem), (∀ n, n ∈ us.map (·.1) → M' n = M n) → okU us M → okU us M' := by
          intro us
          induction us with
          | nil => intro _ _ _ _; trivial
          | cons p r ih =>
            obtain ⟨n, b⟩ := p
            intro M M' hn ⟨h1, h2⟩
            refine ⟨by rw [hn n (by simp)]; exact h1, ih (M.set n b) (M'.set n b) (fun q hq => ?_) h2⟩
            by_cases e : q = n
            · subst e; rw [Mem.set_self, Mem.set_self]
            · rw [Mem.set_ne _ _ e, Mem.set_ne _ _ e]; exact hn q (by simp only [List.map_cons, List.mem_cons]; exact .inr hq)
        obtain ⟨k1, k2⟩ := h3
        refine ⟨genU us _ _ (fun n hn => hrd n (List.mem_append_right _ (by simp only [effN]; exact List.mem_append_left _ hn))) k1, gen l _ _ (fun n hn => ?_) k2⟩
        by_cases hu : n ∈ us.map (·.1)
        · exact appN_in hu
        · rw [appN_out hu, appN_out hu]
          exact hrd n (List.mem_append_right _ (by simp only [effN]; exact List.mem_append_right _ hn))
    exact .inl (h2 w0 F G s.2 s.1 (fun t ht => hts t (List.mem_append_right _ ht)) (fun n hn => hrd n (List.mem_append_left _ hn)) hok a w K Q r1 r2 fun v w' G' q1 q2 q3 =>
      hK _ _ ⟨G', q1, hputT (r2.mono q2) q3, fun p hp => q2 _ _ (r3 p hp)⟩)
  · obtain ⟨t, _, rfl⟩ := List.mem_map.1 hp; rfl
  · obtain ⟨n, _, rfl⟩ := List.mem_map.1 hp; rfl
  · rw [h4]; rfl
  · obtain ⟨t, ht, rfl⟩ := List.mem_map.1 hp; exact ht
  · obtain ⟨n, hn, rfl⟩ := List.mem_map.1 hp; exact List.mem_append.1 hn

/-- An operation that is passed over, as a step. -/
theorem step_skip {o : Oper} {i t : Nat} (hi : ops[i]? = some o) {T : List V} {m : ML} {lg : List LE} (hg : ∀ s a w, s.1[t]? = T[t]? → RelM w0 F pins s a w → Region.wanted o (yielded ops a.tmps) = false)
    {k : List LE → List V → ML → Prop} (h : putK o.dst (.c (.pv undef)) T fun T' => k (⟨o.dst, [t], [], []⟩ :: lg) T' m) :
    ∃ S e T' m', StepOk P w0 F pins ops Q i S ∧ S.App (T, sem m) ∧ S.next (T, sem m) = (T', sem m') ∧ S.entry e ∧ k (e :: lg) T' m' := by
  have hput : k (⟨o.dst, [t], [], []⟩ :: lg) (putL o.dst (.c (.pv undef)) T) m := by
    cases hd : o.dst with
    | none => rw [hd] at h; exact h
    | some d => rw [hd] at h; exact (setK_iff.1 h).2
  refine ⟨⟨o.dst, [(t, T[t]?)], [], .c (.pv undef), .non⟩, _, _, m, ?_, ⟨fun p hp => ?_, fun p hp => by cases hp⟩, rfl, ⟨rfl, fun p hp => ?_, fun p hp => (by cases hp), rfl⟩, hput⟩
  · intro s a w K happ hR hK
    have hw := hg s a w (happ.1 (t, T[t]?) (by simp)) hR
    unfold wpOp
    simp only [hi]
    rw [if_neg (by rw [hw]; simp)]
    obtain ⟨G, r1, r2, r3⟩ := hR
    refine hK _ _ ⟨G, r1, ?_, r3⟩
    show TRel w0 F G s.2 (putL o.dst (.c (.pv undef)) s.1) (a.put o.dst undef)
    cases hd : o.dst with
    | none => exact r2
    | some d => exact r2.set rfl
  · simp at hp; subst hp; rfl
  · simp at hp; subst hp; simp

def Runs : List Step → St → St → Prop
  | [], s, f => s = f
  | S :: r, s, f => S.App s ∧ Runs r (S.next s) f
theorem runs_U {n : Nat} : ∀ {l : List Step} {i : Nat} {s f : St}, i + l.length ≤ n → Runs l s f → RunsU (Array.replicate n false) l i s f
  | [], _, _, _, _, h => h
  | S :: r, i, s, f, hn, ⟨h1, h2⟩ => by
    simp only [RunsU]
    rw [if_neg (by simp at hn; simp [show i < n by omega])]
    exact ⟨h1, runs_U (by simp at hn; omega) h2⟩

def DEnd (P : Program) (w0 : World) (F : Nat → Prop) (pins : List (C × Value)) (Q : Exit → Act → World → Prop) (ops : Array Oper) (i0 n : Nat) (lg : List LE) (T : List V) (m : ML) (k : List LE → List V → ML → Prop) : Prop :=
  ∃ (steps : List Step) (es : List LE) (Tf : List V) (mf : ML), steps.length = n ∧ es.length = n ∧ (∀ (q : Nat) S, steps[q]? = some S → StepOk P w0 F pins ops Q (i0 + q) S ∧ ∃ e, es[q]? = some e ∧ S.entry e) ∧
    Runs steps (T, sem m) (Tf, sem mf) ∧ k (es.reverse ++ lg) Tf mf
theorem runD_ex : ∀ (l : List Oper) {i0 : Nat} {sp : List Nat} {its : List It} {lg : List LE} {T : List V} {m : ML} {k : List LE → List V → ML → Prop}, (∀ q, q < l.length → ops[i0 + q]? = l[q]?) → cits P ops sp l = some its → runD P its lg T m k →
    DEnd P w0 F pins Q ops i0 l.length lg T m k
  | [], i0, sp, its, lg, T, m, k, ho, hc, h => by
    simp only [cits, Option.some.injEq] at hc
    subst hc
    exact ⟨[], [], T, m, rfl, rfl, fun q S hS => by simp at hS, rfl, h⟩
  | o :: r, i0, sp, its, lg, T, m, k, ho, hc, h => by
    have hi : ops[i0]? = some o := by simpa using ho 0 (by simp)
    have ho' : ∀ q, q < r.length → ops[i0 + 1 + q]? = r[q]? := fun q hq => by
      have := ho (q + 1) (by simp; omega)
      rw [show i0 + 1 + q = i0 + (q + 1) by omega]
      simpa using this
    -- one step, and the rest
    have glue : ∀ (its' : List It) (sp' : List Nat) (T : List V), cits P ops sp' r = some its' → (∃ S e T' m', StepOk P w0 F pins ops Q i0 S ∧ S.App (T, sem m) ∧ S.next (T, sem m) = (T', sem m') ∧ S.entry e ∧ runD P its' (e :: lg) T' m' k) →
        DEnd P w0 F pins Q ops i0 (o :: r).length lg T m k := fun its' sp' T hr ⟨S, e, T', m', h1, h2, h3, h4, h5⟩ => by
      obtain ⟨steps, es, Tf, mf, g1, g2, g3, g4, g5⟩ := runD_ex r ho' hr h5
      refine ⟨S :: steps, e :: es, Tf, mf, by simp [g1], by simp [g2], fun q S' hS => ?_, ⟨h2, by rw [h3]; exact g4⟩, by simpa using g5⟩
      cases q with
      | zero => simp at hS; subst hS; exact ⟨h1, e, rfl, h4⟩
      | succ q =>
        have := g3 q S' (by simpa using hS)
        rw [show i0 + (q + 1) = i0 + 1 + q by omega]
        exact ⟨this.1, by simpa using this.2⟩
    simp only [cits] at hc
    split at hc
    · rename_i ao hao hg
      obtain ⟨its', hr, rfl⟩ := oneOpt hc
      exact glue its' sp T hr (step_run (k := fun lg T m => runD P its' lg T m k) hi hao [] (fun s a w _ _ => by simp [Region.wanted, hg]) h)
    · rename_i ao j want hao hg
      split at hc
      · rename_i t ht
        have val : ∀ (x : Value) (T : List V), T[t]? = some (.c (.pv x)) → ∀ (s : St) (a : Act) (w : World), s.1[t]? = T[t]? → RelM w0 F pins s a w → Region.wanted o (yielded ops a.tmps) = isB want x := fun x T hT s a w hs hR => by
          obtain ⟨G, r1, r2, r3⟩ := hR
          rw [hT] at hs
          obtain ⟨v, q1, q2⟩ := r2.tm t _ hs
          obtain rfl : v = x := q2
          exact wanted_eq hg ht q1
        have guarded : ∀ (its' : List It) (sp' : List Nat) (T : List V), cits P ops sp' r = some its' → runD P (.op o.dst (some (t, want)) ao :: its') lg T m k →
            DEnd P w0 F pins Q ops i0 (o :: r).length lg T m k := fun its' sp' T hr h => by
          have run : ∀ x, T[t]? = some (.c (.pv x)) → isB want x = true → (opA P (o.dst.getD 0) T (lookK m) (fun res eff rd => effK eff m fun m' => putK o.dst res T fun T' => runD P its' (⟨o.dst, t :: tmpsA ao, rd, effN eff⟩ :: lg) T' m' k) ao) → DEnd P w0 F pins Q ops i0 (o :: r).length lg T m k := fun x hx hw h => glue its' sp' T hr (step_run (k := fun lg T m => runD P its' lg T m k) hi hao [t] (fun s a w hs hR => by rw [val x T hx s a w (hs t (by simp)) hR, hw]) h)
          have skip : ∀ x, T[t]? = some (.c (.pv x)) → isB want x = false → (putK o.dst (.c (.pv undef)) T fun T' => runD P its' (⟨o.dst, [t], [], []⟩ :: lg) T' m k) → DEnd P w0 F pins Q ops i0 (o :: r).length lg T m k := fun x hx hw h => glue its' sp' T hr (step_skip (k := fun lg T m => runD P its' lg T m k) hi (fun s a w hs hR => by rw [val x T hx s a w hs hR, hw]) h)
          cases want with
          | true =>
            obtain ⟨u, hu, h⟩ := getK_iff.1 h
            split at h
            · exact run _ hu rfl h
            · exact skip _ hu rfl h
            · exact skip _ hu rfl h
            · exact h.elim
          | false =>
            obtain ⟨u, hu, h⟩ := getK_iff.1 h
            split at h
            · exact run _ hu rfl h
            · exact skip _ hu rfl h
            · exact skip _ hu rfl h
            · exact h.elim
        split at hc
        · obtain ⟨its', hr, rfl⟩ := oneOpt hc
          exact guarded its' sp T hr h
        · obtain ⟨its', hr, rfl⟩ := oneOpt hc
          obtain ⟨u, hu, h⟩ := getK_iff.1 h
          split at h
          · rename_i b
            have lay : ∀ c, b = c → (setK T t (.c (.pv (.bool c))) fun T' => runD P (.op o.dst (some (t, want)) ao :: its') lg T' m k) → DEnd P w0 F pins Q ops i0 (o :: r).length lg T m k := fun c e h => by
              subst e
              obtain ⟨hlt, h⟩ := setK_iff.1 h
              have : T.set t (.c (.pv (.bool b))) = T := by
                apply List.ext_getElem?
                intro i
                by_cases e : t = i
                · subst e; rw [List.getElem?_set_self hlt, hu]
                · rw [List.getElem?_set_ne e]
              rw [this] at h
              exact guarded its' _ T hr h
            cases b with
            | true => exact lay true rfl (h.1 rfl)
            | false => exact lay false rfl (h.2 rfl)
          · exact guarded its' _ T hr h
          · exact h.elim
      · cases hc
    · split at hc
      · obtain ⟨its', hr, rfl⟩ := oneOpt hc
        exact h.elim
      · cases hc
    · cases hc

/-! ### the look at what clashes -/
theorem ok1_spec {e : LE} {aft : List Nat} : ∀ {l : List LE} (_ : ok1 e aft l = true) (q : Nat) (e' : LE), l[q]? = some e' → clash e' e = false ∨ (l.length - 1 - q) ∈ aft
  | [], _, q, e', h => by simp at h
  | x :: r, h, q, e', hq => by
    simp only [ok1, Bool.and_eq_true, Bool.or_eq_true, Bool.not_eq_true', List.any_eq_true] at h
    cases q with
    | zero =>
      simp at hq
      subst hq
      rcases h.1 with h1 | ⟨d, h1, h2⟩
      · exact .inl h1
      · have := Nat.eq_of_beq_eq_true h2
        simp
        rw [this]
        exact .inr h1
    | succ q =>
      rcases ok1_spec h.2 q e' (by simpa using hq) with h1 | h1
      · exact .inl h1
      · right
        rw [show (x :: r).length - 1 - (q + 1) = r.length - 1 - q by simp; omega]
        exact h1
theorem chk_spec : ∀ {afts : List (List Nat)} {l : List LE}, chk afts l = true → afts.length = l.length ∧ ∀ (p : Nat) e aft, l[p]? = some e → afts[p]? = some aft → ok1 e aft (l.drop (p + 1)) = true
  | [], [], _ => ⟨rfl, fun p e aft h => by simp at h⟩
  | a :: b, e :: r, h => by
    simp only [chk, Bool.and_eq_true] at h
    obtain ⟨h1, h2⟩ := chk_spec h.2
    refine ⟨by simp [h1], fun p e' aft he ha => ?_⟩
    cases p with
    | zero => simp at he ha; subst he ha; simpa using h.1
    | succ p => simpa using h2 p e' aft (by simpa using he) (by simpa using ha)
  | [], _ :: _, h => by simp [chk] at h
  | _ :: _, [], h => by simp [chk] at h

theorem meets_spec {a b : List Nm} (h : meets a b = false) {n : Nm} (ha : n ∈ a) (hb : n ∈ b) : False := by
  have h1 := List.any_eq_false.1 h n ha
  exact h1 (List.any_eq_true.2 ⟨n, hb, nmB_iff.2 rfl⟩)
theorem dstIn_spec {d : Nat} {l : List Nat} (h : dstIn (some d) l = false) {t : Nat} (ht : t ∈ l) : t ≠ d := fun e => by
  subst e
  have h1 := List.any_eq_false.1 h t ht
  exact h1 (Nat.beq_refl t)
theorem indep_of {S S' : Step} {e e' : LE} (h1 : S.entry e) (h2 : S'.entry e') (h : clash e e' = false) : S.Indep S' := by
  obtain ⟨a1, a2, a3, a4⟩ := h1
  obtain ⟨b1, b2, b3, b4⟩ := h2
  simp only [clash, Bool.or_eq_false_iff] at h
  obtain ⟨⟨⟨⟨⟨c1, c2⟩, c3⟩, c4⟩, c5⟩, c6⟩ := h
  refine ⟨fun d hd => ⟨fun p hp => ?_, fun hd' => ?_⟩, fun d hd p hp => ?_, fun n hn => ⟨fun p hp he => ?_, fun hn' => ?_⟩, fun n hn p hp he => ?_⟩
  · rw [a1, hd] at c1; exact dstIn_spec c1 (b2 p hp)
  · rw [a1, b1, hd, hd'] at c3; exact absurd (Nat.beq_refl d) (by rw [show dstEq (some d) (some d) = Nat.beq d d from rfl] at c3; rw [c3]; simp)
  · rw [b1, hd] at c2; exact dstIn_spec c2 (a2 p hp)
  · subst he
    rw [a4] at hn
    rcases b3 p hp with h3 | h3
    · exact meets_spec c4 hn h3
    · rw [b4] at h3; exact meets_spec c6 hn h3
  · rw [a4] at hn
    rw [b4] at hn'
    exact meets_spec c6 hn hn'
  · subst he
    rw [b4] at hn
    rcases a3 p hp with h3 | h3
    · exact meets_spec c5 hn h3
    · rw [a4] at h3; exact meets_spec c6 h3 hn

theorem edgesOk_spec : ∀ {l : List Oper} {i : Nat}, edgesOk i l = true → ∀ (q : Nat) o, l[q]? = some o → ∀ e ∈ o.after, Region.binds .any e = true → e.on < i + q
  | [], _, _, q, o, h => by simp at h
  | x :: r, i, h, q, o, hq => by
    simp only [edgesOk, Bool.and_eq_true, List.all_eq_true, decide_eq_true_eq] at h
    cases q with
    | zero =>
      simp at hq
      subst hq
      intro e he hb
      have := h.1 e.on (List.mem_map.2 ⟨e, List.mem_filter.2 ⟨by simpa using he, hb⟩, rfl⟩)
      omega
    | succ q =>
      intro e he hb
      have := edgesOk_spec h.2 q o (by simpa using hq) e he hb
      omega

/-- A REGION THAT DRAWS ITS ORDER: walked in its own order. -/
theorem dreg_sound {id : Nat} {its : List It} {T : List V} {m : ML} {a : Act} {w : World} {k : List V → ML → Prop} (hm : P.follows .mixedOrders = true) (he : edgesOk 0 ops.toList = true) (hc : cits P ops [] ops.toList = some its)
    (h : runD P its [] T m fun lg T' m' => chk (ops.toList.map edges).reverse lg = true ∧ k T' m') (hR : RelS w0 F pins T m a w) (hk : ∀ T' m' a' w', k T' m' → RelS w0 F pins T' m' a' w' → Q .normal a' w') : (Code.region id ops true).wp P Q a w := by
  obtain ⟨steps, es, Tf, mf, g1, g2, g3, g4, g5, g6⟩ := runD_ex (w0 := w0) (F := F) (pins := pins) (Q := Q) (ops := ops) ops.toList (i0 := 0) (fun q hq => by simp) hc h
  rw [List.append_nil] at g5
  obtain ⟨c1, c2⟩ := chk_spec g5
  have hn : steps.length = ops.size := by rw [g1]; simp
  refine wp_region_any hm (any_sound (f := (Tf, sem mf)) hn (fun i S hS => by simpa using (g3 i S hS).1) (fun i o ho => by
      have := edgesOk_spec he i o (by simpa using ho)
      simpa using this) (fun i j S S' o hij hS hS' ho hno => ?_) (fun a' w' hR' => hk _ _ _ _ g6 hR') ops.size _ _ _ _ ?_ (runs_U (by omega) g4) ?_)
  · obtain ⟨_, e, e1, e2⟩ := g3 i S hS
    obtain ⟨_, e', e3, e4⟩ := g3 j S' hS'
    have hjl : j < es.length := (List.getElem?_eq_some_iff.1 e3).1
    have hil : i < es.length := (List.getElem?_eq_some_iff.1 e1).1
    have r1 : es.reverse[es.length - 1 - j]? = some e' := by rw [List.getElem?_reverse (by omega)]; rw [show es.length - 1 - (es.length - 1 - j) = j by omega]; exact e3
    have hal : (ops.toList.map edges).length = es.length := by simp [g2]
    have r2 : (ops.toList.map edges).reverse[es.length - 1 - j]? = some (edges o) := by
      rw [List.getElem?_reverse (by omega), hal, show es.length - 1 - (es.length - 1 - j) = j by omega]
      simp [ho]
    have hok1 := c2 _ _ _ r1 r2
    have r3 : (es.reverse.drop (es.length - 1 - j + 1))[j - 1 - i]? = some e := by
      rw [List.getElem?_drop, List.getElem?_reverse (by omega), show es.length - 1 - (es.length - 1 - j + 1 + (j - 1 - i)) = i by omega]
      exact e1
    rcases ok1_spec hok1 _ _ r3 with h1 | h1
    · exact indep_of e2 e4 h1
    · exfalso
      have hlen : (es.reverse.drop (es.length - 1 - j + 1)).length = j := by simp; omega
      rw [hlen, show j - 1 - (j - 1 - i) = i by omega] at h1
      obtain ⟨ed, h2, h3⟩ := List.mem_map.1 h1
      obtain ⟨h4, h5⟩ := List.mem_filter.1 h2
      exact hno ⟨ed, by simpa using h4, h5, h3⟩
  · have := List.length_filter_le (fun i => !(Array.replicate ops.size false).getD i true) (List.range ops.size)
    simpa using this
  · obtain ⟨G, r1, r2, r3⟩ := hR
    exact ⟨G, ⟨r1.bd, r1.os, r1.tape, r1.output, r1.size, r1.keep, fun n b hb => (r1.own n b hb), r1.dist⟩, r2, r3⟩
end
end Go.Proofs.Ytfbadfnhnaaeeaa
