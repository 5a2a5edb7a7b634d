/- The abstract machine: calls; all operations. -/
import Derived.Test.YtfmkcdggdikmdaaE12
namespace Go.Proofs.Ytfmkcdggdikmdaa
set_option linter.unusedSimpArgs false
set_option linter.unusedVariables false
open Go.RowKit

section
variable {P : Program} {w0 : World} {F : Nat → Prop} {G : Gh} {M : Mem} {w : World} {T : List V} {a : Act} {o : Oper} {d : Nat} {K : Act → World → Prop} {Q : Exit → Act → World → Prop}

theorem rel_empty (w : World) (G : Gh) : Rel w (There w none) G (semL []) w where
  bd := fun k h => h.1
  os := rfl
  tape := rfl
  output := rfl
  size := Nat.le_refl _
  keep := fun _ _ => rfl
  own := fun n b h => by obtain ⟨_, h⟩ := semL_some h; simp at h
  dist := fun n m B h => by
    have : semL [] n = none := by
      obtain ⟨x, y⟩ := n
      cases x <;> simp [semL]
    exact absurd this h

theorem BOk.fl_keep {F2 : Nat → Prop} {G2 : Gh} {M2 : Mem} {w1 : World} {g : Value} {e : TypeId} {sz : Nat} {l : List (List Value)} (h : BOk w1 F2 G2 M2 w g (.fl e sz l)) (hF : ∀ B, F B → F2 B) : BOk w0 F G M w g (.fl e sz l) :=
  ⟨h.1, h.2.1, h.2.2.1, h.2.2.2.1, fun B hB hFB => h.2.2.2.2 B hB (hF B hFB)⟩

/-- Behind a call the caller's memory and the callee's new blocks stand side by side. -/
theorem rel_join {news : List Blk} {G2 : Gh} {w' : World} (hR : Rel w0 F G M w) (h2 : Rel w (There w none) G2 (semL news) w') (hfl : ∀ b ∈ news, ∃ e sz l, b = .fl e sz l) (hge : ∀ i B, blkOf (G2 (0, i)) = some B → w.heap.size ≤ B)
    (hok : okN (newsM d 0 news) M) : Rel w0 F (joinG d news.length G G2) (appN (newsM d 0 news) M) w' := by
  have isnew : ∀ n, appN (newsM d 0 news) M n = if n.1 = d ∧ n.2 < news.length then news[n.2]? else M n := fun n => by
    rw [appN_news]
    by_cases c : n.1 = d ∧ n.2 < news.length
    · rw [if_pos c, if_pos (by omega)]; simp
    · rw [if_neg c, if_neg (by omega)]
  have old : ∀ n, M n ≠ none → ¬ (n.1 = d ∧ n.2 < news.length) := fun n hn hc => by
    have := okN_news d news 0 M hok n.2 (by omega) (by omega)
    exact hn (by rw [← this]; congr 1; exact Prod.ext hc.1 rfl)
  have gold : ∀ n, ¬ (n.1 = d ∧ n.2 < news.length) → joinG d news.length G G2 n = G n := fun n hn => by simp only [joinG]; rw [if_neg hn]
  have gnew : ∀ n, (n.1 = d ∧ n.2 < news.length) → joinG d news.length G G2 n = G2 (0, n.2) := fun n hn => by simp only [joinG]; rw [if_pos hn]
  have hkeep : Keeps w w' none := fun k _ hk => h2.keep k ⟨hk, by simp⟩
  have hmono : ∀ x u, ConcC w0 F G M x u → ConcC w0 F (joinG d news.length G G2) (appN (newsM d 0 news) M) x u := fun x u hx => by
    have eqM : ∀ n, M n ≠ none → appN (newsM d 0 news) M n = M n ∧ joinG d news.length G G2 n = G n := fun n hn => by
      rw [isnew, if_neg (old n hn)]
      exact ⟨rfl, gold n (old n hn)⟩
    cases x with
    | any => trivial
    | pv _ => exact hx
    | ptr m j =>
      obtain ⟨B, h1, h2, l, h3⟩ := hx
      obtain ⟨e1, e2⟩ := eqM m (by rw [h3]; simp)
      exact ⟨B, by rw [e2]; exact h1, h2, l, by rw [e1]; exact h3⟩
    | eptr m len i j =>
      obtain ⟨e, sz, l, h1, h2, h3, h4⟩ := hx
      obtain ⟨e1, e2⟩ := eqM m (by rw [h1]; simp)
      exact ⟨e, sz, l, by rw [e1]; exact h1, h2, h3, by rw [e2]; exact h4⟩
    | slc m len =>
      obtain ⟨e, sz, l, h1, h2, h3, h4⟩ := hx
      obtain ⟨e1, e2⟩ := eqM m (by rw [h1]; simp)
      exact ⟨e, sz, l, by rw [e1]; exact h1, h2, h3, by rw [e2]; exact h4⟩
    | view _ _ => exact hx
    | vptr _ _ => exact hx
    | sub m len lo cnt =>
      obtain ⟨e, sz, l, h1, h2, h3, h4⟩ := hx
      obtain ⟨e1, e2⟩ := eqM m (by rw [h1]; simp)
      exact ⟨e, sz, l, by rw [e1]; exact h1, h2, h3, by rw [e2]; exact h4⟩
    | pview _ _ => exact hx
    | ref m =>
      obtain ⟨h1, h2, b, h3, h4⟩ := hx
      obtain ⟨e1, e2⟩ := eqM m (by rw [h3]; simp)
      exact ⟨by rw [e2]; exact h1, h2, b, by rw [e1]; exact h3, h4⟩
  exact {
    bd := hR.bd
    os := h2.os.trans hR.os
    tape := h2.tape.trans hR.tape
    output := h2.output.trans hR.output
    size := Nat.le_trans hR.size h2.size
    keep := fun k hF => (h2.keep k ⟨Nat.lt_of_lt_of_le (hR.bd k hF) hR.size, by simp⟩).trans (hR.keep k hF)
    own := fun n b hn => by
      rw [isnew] at hn
      by_cases c : n.1 = d ∧ n.2 < news.length
      · rw [if_pos c] at hn
        rw [gnew n c]
        obtain ⟨e, sz, l, rfl⟩ := hfl b (List.mem_of_getElem? hn)
        exact (h2.own (0, n.2) _ hn).fl_keep fun B hB => ⟨Nat.lt_of_lt_of_le (hR.bd B hB) hR.size, by simp⟩
      · rw [if_neg c] at hn
        rw [gold n c]
        exact (hR.own n b hn).keep hmono hkeep (fun B _ => by simp)
    dist := fun n m B hn hm e1 e2 => by
      have oldlt : ∀ q, ¬ (q.1 = d ∧ q.2 < news.length) → appN (newsM d 0 news) M q ≠ none → blkOf (joinG d news.length G G2 q) = some B → B < w.heap.size ∧ M q ≠ none := fun q c hq hb => by
        rw [isnew, if_neg c] at hq
        rw [gold q c] at hb
        obtain ⟨b, hb'⟩ := Option.ne_none_iff_exists'.1 hq
        exact ⟨((hR.own q b hb').lt B hb).1, hq⟩
      by_cases c1 : n.1 = d ∧ n.2 < news.length <;> by_cases c2 : m.1 = d ∧ m.2 < news.length
      · rw [gnew n c1] at e1
        rw [gnew m c2] at e2
        have hs : ∀ i, i < news.length → semL news (0, i) ≠ none := fun i hi => by simp [semL, hi]
        have := h2.dist (0, n.2) (0, m.2) B (hs _ c1.2) (hs _ c2.2) e1 e2
        simp at this
        exact Prod.ext (c1.1.trans c2.1.symm) this
      · rw [gnew n c1] at e1
        have := hge n.2 B e1
        have := (oldlt m c2 hm e2).1
        omega
      · rw [gnew m c2] at e2
        have := hge m.2 B e2
        have := (oldlt n c1 hn e1).1
        omega
      · rw [gold n c1] at e1
        rw [gold m c2] at e2
        exact hR.dist n m B (oldlt n c1 hn (by rw [gold n c1]; exact e1)).2 (oldlt m c2 hm (by rw [gold m c2]; exact e2)).2 e1 e2 }
theorem mono_join {news : List Blk} {G2 : Gh} (hok : okN (newsM d 0 news) M) {x : C} {u : Value} (hx : ConcC w0 F G M x u) : ConcC w0 F (joinG d news.length G G2) (appN (newsM d 0 news) M) x u := by
  have eqM : ∀ n, M n ≠ none → appN (newsM d 0 news) M n = M n ∧ joinG d news.length G G2 n = G n := fun n hn => by
    have c : ¬ (n.1 = d ∧ n.2 < news.length) := fun hc => by
      have := okN_news d news 0 M hok n.2 (by omega) (by omega)
      exact hn (by rw [← this]; congr 1; exact Prod.ext hc.1 rfl)
    rw [appN_news, if_neg (by omega)]
    refine ⟨rfl, ?_⟩
    unfold joinG
    rw [if_neg c]
  cases x with
  | any => trivial
  | pv _ => exact hx
  | ptr m j =>
    obtain ⟨B, h1, h2, l, h3⟩ := hx
    obtain ⟨e1, e2⟩ := eqM m (by rw [h3]; simp)
    exact ⟨B, by rw [e2]; exact h1, h2, l, by rw [e1]; exact h3⟩
  | eptr m len i j =>
    obtain ⟨e, sz, l, h1, h2, h3, h4⟩ := hx
    obtain ⟨e1, e2⟩ := eqM m (by rw [h1]; simp)
    exact ⟨e, sz, l, by rw [e1]; exact h1, h2, h3, by rw [e2]; exact h4⟩
  | slc m len =>
    obtain ⟨e, sz, l, h1, h2, h3, h4⟩ := hx
    obtain ⟨e1, e2⟩ := eqM m (by rw [h1]; simp)
    exact ⟨e, sz, l, by rw [e1]; exact h1, h2, h3, by rw [e2]; exact h4⟩
  | view _ _ => exact hx
  | vptr _ _ => exact hx
  | sub m len lo cnt =>
    obtain ⟨e, sz, l, h1, h2, h3, h4⟩ := hx
    obtain ⟨e1, e2⟩ := eqM m (by rw [h1]; simp)
    exact ⟨e, sz, l, by rw [e1]; exact h1, h2, h3, by rw [e2]; exact h4⟩
  | pview _ _ => exact hx
  | ref m =>
    obtain ⟨h1, h2, b, h3, h4⟩ := hx
    obtain ⟨e1, e2⟩ := eqM m (by rw [h3]; simp)
    exact ⟨by rw [e2]; exact h1, h2, b, by rw [e1]; exact h3, h4⟩

theorem sound_call {f : FuncId} {args : Array Operand} {ts : Array TypeId} {xs : List Opd} (ho : o.op = .call { callee := .value (.func f), args := args, argTypes := ts }) (hu : isUser P f = true) (hx : copds args.toList = some xs) {k : V → Eff → List Nm → Prop} : Sound P M T d o (.call f xs) k := fun h => by
  cases h with
  | plain us rd res news ha hf hk =>
    obtain ⟨us', rd', ⟨e1, e2⟩, h1, h2⟩ := argsK_ex hx ha
    subst e1 e2
    obtain ⟨r, hk1, hk2⟩ := renK_det hk
    obtain ⟨hk3, hk4⟩ := newsK_ex hk1
    refine ⟨_, _, _, hk3, fun w0 F G M' T' g1 g2 hok a w K Q hR hT hK => ?_⟩
    have hlen : (args.toList.map a.eval).length = us'.length := by rw [List.length_map, h1]
    have hcall := hf.2 w (There w none) (fun _ => .bool false) (args.toList.map a.eval) (rel_empty w _) (fun k hk => .inl ⟨hk, by simp⟩) hlen (fun j x v hx hv => h2 w0 F G M' T' w a g1 g2 hR hT _ _ ⟨fun _ h => (by cases h), fun _ h => (by cases h), fun _ h => (by cases h)⟩ j x v hx hv)
    refine wp_call ho hu ?_
    rw [show args.map a.eval = (args.toList.map a.eval).toArray by apply Array.ext'; simp]
    refine hcall.mono fun e w' ⟨v, G2, he, q1, q2, q3, q4⟩ => ⟨v, he, ?_⟩
    simp only [List.nil_append] at q1 q2
    have hj := rel_join (d := d) hR q1 hk4 (fun i B hB => q4 i (Nat.zero_le _) B hB) hok
    refine hK v w' _ hj (fun x u hx => mono_join hok hx) ?_
    obtain ⟨r', e3, e4⟩ := renK_conc (lo := none) (d := d) (w0 := w0) (F := F) (M := appN (newsM d 0 news) M') (G := joinG d news.length G G2) (news := news) (G2 := G2) (F2 := There w none) (w1 := w) (fun i b hb => by
      have hi : i < news.length := (List.getElem?_eq_some_iff.1 hb).1
      simp only [renN]
      rw [appN_news, if_pos (by simp; omega)]
      simp only [joinG]
      rw [if_pos (by simp; omega)]
      exact ⟨by simpa using hb, rfl⟩) (hk2 (fun r' => r' = r) rfl)
    subst e3
    exact e4 v q2
  | lent n us rd res e sz l l' hf hl ha hk =>
    obtain ⟨b, hb, rfl⟩ := hl
    obtain ⟨us', rd', ⟨e1, e2⟩, h1, h2⟩ := argsK_ex hx ha
    subst e1 e2
    obtain ⟨r, hk1, hk2⟩ := renK_det hk
    refine ⟨_, _, _, hk1, fun w0 F G M' T' g1 g2 hok a w K Q hR hT hK => ?_⟩
    have hn' := (g2 n (by simp)).trans hb
    obtain ⟨f1, f2, f3, f4, f5⟩ := hR.fl hn'
    have hR1 : Rel w (There w (blkOf (G n))) (fun _ => G n) (semL [.fl e sz l]) w := {
      bd := fun k h => h.1
      os := rfl
      tape := rfl
      output := rfl
      size := Nat.le_refl _
      keep := fun _ _ => rfl
      own := fun m b hb => by
        obtain ⟨_, hb⟩ := semL_some hb
        have : b = .fl e sz l := by
          rcases m with ⟨m1, m2⟩
          cases m2 with
          | zero => simpa using hb.symm
          | succ m2 => simp at hb
        subst this
        refine ⟨f1, f2, f3, f4, fun B hB hF => hF.2 ?_⟩
        rcases f4.2 with ⟨r1, _⟩ | ⟨B', cap, cur, r1, _⟩
        · rw [r1] at hB; simp [Value.ownBlock] at hB
        · rw [r1] at hB ⊢; simpa [Value.ownBlock, blkOf] using hB.symm
      dist := fun p q B hp hq _ _ => by
        have one : ∀ m : Nm, semL [Blk.fl e sz l] m ≠ none → m = (0, 0) := fun m hm => by
          obtain ⟨b, hb⟩ := Option.ne_none_iff_exists'.1 hm
          obtain ⟨h1, h2⟩ := semL_some hb
          rw [h1]
          cases h3 : m.2 with
          | zero => rfl
          | succ q => rw [h3] at h2; simp at h2
        rw [one p hp, one q hq] }
    have hlen : (args.toList.map a.eval).length = us'.length := by rw [List.length_map, h1]
    have hcall := hf.2 w (There w (blkOf (G n))) (fun _ => G n) (args.toList.map a.eval) hR1 (fun k hk => by
      by_cases hkb : some k = blkOf (G n)
      · exact .inr ⟨0, by simp, hkb.symm⟩
      · exact .inl ⟨hk, hkb⟩) hlen (fun j x v hx hv => h2 w0 F G M' T' w a g1 (fun m hm => g2 m (by simp [hm])) hR hT _ _ ⟨fun q h => (by cases h; rw [hn']; simp), fun q h => (by cases h; rw [hn']; rfl), fun q h => (by cases h; rfl)⟩ j x v hx hv)
    refine wp_call ho hu ?_
    rw [show args.map a.eval = (args.toList.map a.eval).toArray by apply Array.ext'; simp]
    refine hcall.mono fun e' w' ⟨v, G2, he, q1, q2, q3, q4⟩ => ⟨v, he, ?_⟩
    have hg2 : G2 (0, 0) = G n := q3 0 (by simp)
    obtain ⟨p1, p2, p3, p4, p5⟩ := q1.fl (n := (0, 0)) (e := e) (sz := sz) (l := l') rfl
    rw [hg2] at p4 p5
    have hll : l'.length = l.length := by
      rcases f4.2 with ⟨r1, r2⟩ | ⟨B, cap, cur, r1, _⟩
      · rcases p4.2 with ⟨s1, s2⟩ | ⟨B', cap', cur', s1, _⟩
        · omega
        · rw [r1] at s1; simp at s1
      · rcases p4.2 with ⟨s1, s2⟩ | ⟨B', cap', cur', s1, _⟩
        · rw [r1] at s1; simp at s1
        · rw [r1] at s1; simp at s1; omega
    have hturn : Turns (.fl e sz l) (.fl e sz l') (G n) (G n) := Turns_same hll
    refine hK v w' (G.set n (G n)) (hR.upd hn' hturn q1.os q1.tape q1.output q1.size (fun k hk hlt => q1.keep k ⟨hlt, hk⟩) (fun B hB => .inl hB) ⟨p1, p2, p3, p4, fun B hB hF => ?_⟩) (fun x u hx => hx.upd hn' hturn) ?_
    · exact f5 B hB hF
    · obtain ⟨r', e3, e4⟩ := renK_conc (lo := some n) (d := d) (w0 := w0) (F := F) (M := M'.set n (.fl e sz l')) (G := G.set n (G n)) (news := [.fl e sz l']) (G2 := G2) (F2 := There w (blkOf (G n))) (w1 := w) (fun i b hb => by
        simp only [renN]
        cases i with
        | zero => simp at hb; subst hb; rw [Mem.set_self, Gh.set_self]; exact ⟨rfl, hg2.symm⟩
        | succ i => simp at hb) (hk2 (fun r' => r' = r) rfl)
      subst e3
      exact e4 v q2

/-! ### function values -/
theorem capsK_ex : ∀ {xs : List Operand} {xs' : List Opd} {k : List C → Prop}, copds xs = some xs' → capsK T xs' k → ∃ cs, k cs ∧
    ∀ w0 F G M' T' a, (∀ t, t ∈ xs'.flatMap opdT → T'[t]? = T[t]?) → TRel w0 F G M' T' a → ConcCs w0 F G M' cs (xs.map a.eval)
  | [], xs', k, hc, h => by
    simp [copds] at hc
    subst hc
    exact ⟨_, h, fun _ _ _ _ _ _ _ _ => ⟨rfl, fun j x hx => by simp at hx⟩⟩
  | x :: r, xs', k, hc, h => by
    simp only [copds] at hc
    split at hc
    · rename_i y l hx hr
      simp only [Option.some.injEq] at hc
      subst hc
      obtain ⟨u, h1, hv⟩ := evK_ex hx h
      match u, h1, hv with
      | .c z, h1, hv =>
        obtain ⟨cs, h3, h4⟩ := capsK_ex hr h1
        refine ⟨_, h3, fun w0 F G M' T' a ht hT => ?_⟩
        have hz := hv w0 F G M' T' a (fun t h => ht t (by simp [h])) hT
        have hr := h4 w0 F G M' T' a (fun t h => ht t (by rw [List.flatMap_cons]; exact List.mem_append_right _ h)) hT
        refine ⟨by simp [hr.1], fun j c hj => ?_⟩
        cases j with
        | zero => simp at hj; subst hj; exact ⟨_, rfl, hz⟩
        | succ j => exact hr.2 j c hj
      | .agg _, h1, _ => exact h1.elim
      | .tup _, h1, _ => exact h1.elim
      | .clo _ _, h1, _ => exact h1.elim
    · cases hc
theorem sound_mkf {f : FuncId} {fst caps : Array Operand} {xs : List Opd} (ho : o.op = .makeFunc (.func f) fst caps) (hf : fst.toList = []) (hx : copds caps.toList = some xs) {k : V → Eff → List Nm → Prop} : Sound P M T d o (.mkf f xs) k := fun h => by
  obtain ⟨cs, h1, h2⟩ := capsK_ex hx h
  refine ⟨_, _, _, h1, does_pure fun w0 F G M' T' a w g1 g2 hR hT => ⟨.func (.func f) #[] (caps.map a.eval), ?_, ⟨_, rfl, ?_⟩⟩⟩
  · obtain rfl : fst = #[] := by cases fst; simp at hf; subst hf; rfl
    simp [execOp, ho, Instr.makeFunc]
  · have := h2 w0 F G M' T' a g1 hT
    rwa [← Array.toList_map] at this
theorem wp_callc {t : Nat} {f : FuncId} {caps : Array Value} {args : Array Operand} {ts : Array TypeId} (ho : o.op = .call { callee := .value (.tmp t), args := args, argTypes := ts }) (he : a.eval (.tmp t) = .func (.func f) #[] caps) (hu : isUser P f = true)
    (h : Calls P f (args.map a.eval ++ caps) w fun e w' => ∃ v, e = .returned v ∧ K (a.put o.dst v) w') : o.wp P a w K Q := by
  have hrun : (execOp a.eval o).run P w = .ok (.enter f (args.map a.eval ++ caps)) w := by
    unfold isUser at hu
    cases hf : P.funcs[f]? with
    | none => rw [hf] at hu; cases hu
    | some fn =>
      rw [hf] at hu
      simp only [Bool.and_eq_true, bne_iff_ne, ne_eq] at hu
      have hb : fn.body.isNone = false := by
        cases hfb : fn.body with
        | none => rw [hfb] at hu; simp at hu
        | some _ => rfl
      simp [execOp, ho, resolve, he, Deferred.ofValue, invoke, callFunc, hf, hu.1]
      intro e
      rw [e] at hb
      cases hb
  unfold Oper.wp
  rw [hrun, Oper.upon_enter]
  refine h.mono fun e w' ⟨v, he, hk⟩ => ?_
  subst he
  exact hk
theorem sound_callc {t : Nat} {args : Array Operand} {ts : Array TypeId} {xs : List Opd} (ho : o.op = .call { callee := .value (.tmp t), args := args, argTypes := ts }) (hx : copds args.toList = some xs) {k : V → Eff → List Nm → Prop} : Sound P M T d o (.callc (.t t) xs) k := fun h => by
  obtain ⟨u, h1, hv⟩ := evK_ex (x := .tmp t) (y := .t t) rfl h
  split at h1
  case h_2 => exact h1.elim
  rename_i f caps
  obtain ⟨hu, h2⟩ := h1
  cases h2 with
  | mk us cs rd rd2 res news ha hcs hf hk =>
    obtain ⟨us', rd', ⟨e1, e2⟩, h1, h2⟩ := argsK_ex hx ha
    subst e1 e2
    obtain ⟨cs', rd2', ⟨e1, e2⟩, h3⟩ := argCK_ex hcs
    subst e1 e2
    obtain ⟨r, hk1, hk2⟩ := renK_det hk
    obtain ⟨hk3, hk4⟩ := newsK_ex hk1
    refine ⟨_, _, _, hk3, fun w0 F G M' T' g1 g2 hok a w K Q hR hT hK => ?_⟩
    obtain ⟨capv, he, hcv⟩ := hv w0 F G M' T' a (fun q hq => g1 q (by simp only [tmpsA]; exact List.mem_append_left _ hq)) hT
    have L : LnOk none G M' (fun _ => .bool false) (semL []) := ⟨fun _ h => (by cases h), fun _ h => (by cases h), fun _ h => (by cases h)⟩
    have hcc := h3 w0 F G M' w _ (fun n hn => g2 n (List.mem_append_right _ hn)) hR hcv _ _ L
    have hlen : (args.toList.map a.eval ++ capv.toList).length = (us' ++ cs'.map V.c).length := by simp [h1, hcc.1]
    have hcall := hf.2 w (There w none) (fun _ => .bool false) (args.toList.map a.eval ++ capv.toList) (rel_empty w _) (fun k hk => .inl ⟨hk, by simp⟩) hlen (fun j x v hx hv => by
      have hl : (args.toList.map a.eval).length = us'.length := by simp [h1]
      rcases Nat.lt_or_ge j us'.length with hj | hj
      · rw [List.getElem?_append_left hj] at hx
        rw [List.getElem?_append_left (by rw [hl]; exact hj)] at hv
        exact h2 w0 F G M' T' w a (fun q hq => g1 q (by simp only [tmpsA]; exact List.mem_append_right _ hq)) (fun n hn => g2 n (List.mem_append_left _ hn)) hR hT _ _ L j x v hx hv
      · rw [List.getElem?_append_right hj, List.getElem?_map] at hx
        rw [List.getElem?_append_right (by rw [hl]; exact hj), hl] at hv
        cases hc : cs'[j - us'.length]? with
        | none => rw [hc] at hx; cases hx
        | some c =>
          rw [hc] at hx
          simp only [Option.map_some, Option.some.injEq] at hx
          subst hx
          obtain ⟨v', e1, e2⟩ := hcc.2 _ c hc
          rw [hv] at e1
          obtain rfl := Option.some.inj e1
          exact e2)
    refine wp_callc ho he hu ?_
    rw [show args.map a.eval ++ capv = (args.toList.map a.eval ++ capv.toList).toArray by apply Array.ext'; simp]
    refine hcall.mono fun e w' ⟨v, G2, he, q1, q2, q3, q4⟩ => ⟨v, he, ?_⟩
    simp only [List.nil_append] at q1 q2
    have hj := rel_join (d := d) hR q1 hk4 (fun i B hB => q4 i (Nat.zero_le _) B hB) hok
    refine hK v w' _ hj (fun x u hx => mono_join hok hx) ?_
    obtain ⟨r', e3, e4⟩ := renK_conc (lo := none) (d := d) (w0 := w0) (F := F) (M := appN (newsM d 0 news) M') (G := joinG d news.length G G2) (news := news) (G2 := G2) (F2 := There w none) (w1 := w) (fun i b hb => by
      have hi : i < news.length := (List.getElem?_eq_some_iff.1 hb).1
      simp only [renN]
      rw [appN_news, if_pos (by simp; omega)]
      simp only [joinG]
      rw [if_pos (by simp; omega)]
      exact ⟨by simpa using hb, rfl⟩) (hk2 (fun r' => r' = r) rfl)
    subst e3
    exact e4 v q2
end
end Go.Proofs.Ytfmkcdggdikmdaa
