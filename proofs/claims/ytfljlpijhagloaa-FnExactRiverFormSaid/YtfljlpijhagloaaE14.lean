/- The abstract machine: every operation that is taken over does what Go's does. -/
import Derived.Test.YtfljlpijhagloaaEM
namespace Go.Proofs.Ytfljlpijhagloaa
set_option linter.unusedSimpArgs false
set_option linter.unusedVariables false
open Go.RowKit

section
variable {P : Program} {M : Mem} {T : List V} {d : Nat}

theorem oneOpt {α β : Type} {x : Option α} {f : α → β} {y : β} (h : x.map f = some y) : ∃ z, x = some z ∧ f z = y := by
  cases x with
  | none => cases h
  | some z => exact ⟨z, rfl, Option.some.inj h⟩

theorem eqK_ex : ∀ {lx ly : List Value} {k : Bool → Prop}, eqK lx ly k → ∃ b, k b ∧ ∀ (P : Program) (w : World) (D : Nat) (fl : List Field) (i : Nat) (xs ys : Array Value), xs.toList.drop i = lx → ys.toList.drop i = ly → fl.length = lx.length →
      (∀ (j : Nat) f, fl[j]? = some f → f.name ≠ "_" ∧ f.offset = i + j ∧ P.underlying f.type = some (.int .i64)) → (Op.eqFields (D + 1) xs ys fl).run P w = .ok b w
  | [], [], k, h => ⟨_, h, fun P w D fl i xs ys _ _ hl _ => by
      obtain rfl : fl = [] := List.eq_nil_of_length_eq_zero (by simpa using hl)
      simp [Op.eqFields]⟩
  | x :: r, y :: r', k, h => by
    simp only [eqK] at h
    split at h
    case h_2 => exact h.elim
    rename_i a b ha hb
    obtain rfl := asI_some ha
    obtain rfl := asI_some hb
    obtain ⟨c, h1, h2⟩ := eqK_ex (lx := r) (ly := r') h
    refine ⟨_, h1, fun P w D fl i xs ys hx hy hl hf => ?_⟩
    cases fl with
    | nil => simp at hl
    | cons f fl =>
      obtain ⟨f1, f2, f3⟩ := hf 0 f rfl
      have ex : xs[i]? = some (.int .i64 a) := by
        have := congrArg (·[0]?) hx
        simpa using this
      have ey : ys[i]? = some (.int .i64 b) := by
        have := congrArg (·[0]?) hy
        simpa using this
      have hd : ∀ (l : List Value) (v : Value) (r : List Value), l.drop i = v :: r → l.drop (i + 1) = r := fun l v r h => by
        rw [← List.drop_drop, h]; rfl
      have rest := h2 P w D fl (i + 1) xs ys (hd _ _ _ hx) (hd _ _ _ hy) (by simpa using hl) (fun j g hg => by
        obtain ⟨g1, g2, g3⟩ := hf (j + 1) g (by simpa using hg)
        exact ⟨g1, by omega, g3⟩)
      have p1 : (part f.type xs f.offset).run P w = .ok (.int .i64 a) w := by simp [part, isAgg, run_underlying f3, f2, ex]
      have p2 : (part f.type ys f.offset).run P w = .ok (.int .i64 b) w := by simp [part, isAgg, run_underlying f3, f2, ey]
      have p3 := run_equalIn_int (P := P) w D f.type .i64 .i64 a b f3
      simp only [Op.eqFields]
      rw [if_pos f1]
      simp only [Sem.run_bind, p1, p2, p3, Result.andThen_ok, Sem.run_ite, rest, Sem.run_pure]
      by_cases hab : a = b
      · subst hab; simp
      · have : (a == b) = false := by simpa using hab
        simp [this, hab]
  | [], _ :: _, _, h => h.elim
  | _ :: _, [], _, h => h.elim

theorem aggK_ex {u : V} {k : List Value → Prop} (h : aggK u k) : ∃ vs, k vs ∧ ∀ w0 F G M v, ConcV w0 F G M u v → ∃ arr : Array Value, v = .agg arr ∧ arr.toList = vs := by
  cases u with
  | agg l =>
    obtain ⟨vs, h1, h2⟩ := pvsK_ex h
    exact ⟨vs, h1, fun w0 F G M v ⟨arr, e1, e2⟩ => ⟨arr, e1, h2 _ _ _ _ _ e2⟩⟩
  | _ => exact h.elim

theorem sound_eqS {o : Oper} {op : BinOp} {ng : Bool} {n : Nat} {t u : TypeId} {x y : Operand} {x' y' : Opd} (ho : o.op = .binOp op t x y u) (hop : op = if ng then .neq else .eql) (ht : flatS P t = some n) (hx : copd x = some x') (hy : copd y = some y') {k : V → Eff → List Nm → Prop} : Sound P M T d o (.eqS ng n x' y') k := fun h => by
  obtain ⟨u1, h1, hv1⟩ := evK_ex hx h
  obtain ⟨u2, h2, hv2⟩ := evK_ex hy h1
  obtain ⟨lx, h3, hlx⟩ := aggK_ex h2
  obtain ⟨ly, h4, hly⟩ := aggK_ex h3
  obtain ⟨h5, h6⟩ := guardK_iff.1 h4
  obtain ⟨b, h7, h8⟩ := eqK_ex h6
  have hn := Nat.eq_of_beq_eq_true h5
  unfold flatS at ht
  split at ht
  case h_2 => cases ht
  rename_i fs hu
  split at ht
  case isFalse => cases ht
  rename_i hc
  simp only [Option.some.injEq] at ht
  simp only [Bool.and_eq_true, Bool.not_eq_true'] at hc
  obtain ⟨⟨c1, c2⟩, c3⟩ := hc
  have hfs : ∀ (j : Nat) f, fs.toList[j]? = some f → f.name ≠ "_" ∧ f.offset = 0 + j ∧ P.underlying f.type = some (.int .i64) := fun j f hf => by
    have hm : (f, j) ∈ fs.toList.zipIdx := by rw [List.mem_zipIdx_iff_getElem?]; exact hf
    have := List.all_eq_true.1 c3 _ hm
    simp only [Bool.and_eq_true, bne_iff_ne, ne_eq, beq_iff_eq] at this
    obtain ⟨⟨g1, g2⟩, g3⟩ := this
    refine ⟨g1, by omega, ?_⟩
    split at g3
    · assumption
    · cases g3
  have hfo : P.fieldsOf t = fs := by simp [Program.fieldsOf, hu]
  have run : ∀ (a : Act) (w : World) (vx vy : Array Value), a.eval x = .agg vx → a.eval y = .agg vy → vx.toList = lx → vy.toList = ly → (execOp a.eval o).run P w = .ok (.value (.bool (if ng then !b else b))) w := fun a w vx vy e1 e2 e3 e4 => by
    have g := run_eqGuard_agg (P := P) w op t x y vx vy c2
    have q := run_equalIn_agg (P := P) w 9999 t vx vy (by rw [hu, hfo]) c1
    have r := h8 P w 9998 fs.toList 0 vx vy (by simpa using e3) (by simpa using e4) (by rw [Array.length_toList, hn]; exact ht) hfs
    rw [hfo, r] at q
    subst hop
    cases ng with
    | true =>
      have := run_neq_struct (P := P) w t vx vy
      simp only [if_true] at g this ho ⊢
      simp [execOp, ho, e1, e2, g, this, q]
    | false =>
      have := run_eql_struct (P := P) w t vx vy
      simp only [Bool.false_eq_true, if_false] at g this ho ⊢
      simp [execOp, ho, e1, e2, g, this, q]
  have fin : ∀ (a : Act) (w : World) w0 F G M' T', (∀ t, t ∈ opdT x' ++ opdT y' → T'[t]? = T[t]?) → TRel w0 F G M' T' a → (execOp a.eval o).run P w = .ok (.value (.bool (if ng then !b else b))) w := fun a w w0 F G M' T' g1 hT => by
    obtain ⟨vx, e1, e2⟩ := hlx _ _ _ _ _ (hv1 w0 F G M' T' a (fun q hq => g1 q (by simp [hq])) hT)
    obtain ⟨vy, e3, e4⟩ := hly _ _ _ _ _ (hv2 w0 F G M' T' a (fun q hq => g1 q (by simp [hq])) hT)
    exact run a w vx vy e1 e3 e2 e4
  cases ng with
  | true => exact ⟨_, _, _, h7, does_pure fun w0 F G M' T' a w g1 g2 hR hT => ⟨_, fin a w w0 F G M' T' g1 hT, rfl⟩⟩
  | false => exact ⟨_, _, _, h7, does_pure fun w0 F G M' T' a w g1 g2 hR hT => ⟨_, fin a w w0 F G M' T' g1 hT, rfl⟩⟩

theorem cop_mv {o : Oper} {ao : AOp} {x : Operand} (hop : o.op = .move x ∨ o.op = .assign x) (h : cmv P o.type x = some ao) {k : V → Eff → List Nm → Prop} : Sound P M T d o ao k := by
  unfold cmv at h
  split at h
  · split at h
    · split at h
      · split at h
        · cases h; exact sound_nilS (t := 0) hop rfl (by assumption)
        · cases h
      · cases h
    · cases h
  · obtain ⟨y, hy, rfl⟩ := oneOpt h
    exact sound_mv hop hy

theorem cop_sound {o : Oper} {ao : AOp} (h : cop P d o = some ao) {k : V → Eff → List Nm → Prop} : Sound P M T d o ao k := by
  unfold cop at h
  cases hop : o.op with
  | move x => simp only [hop] at h; exact cop_mv (.inl hop) h
  | assign x => simp only [hop] at h; exact cop_mv (.inr hop) h
  | pick c a b =>
    simp only [hop] at h
    split at h
    · cases h; exact sound_pick hop (by assumption) (by assumption) (by assumption)
    · cases h
  | alloc t =>
    simp only [hop] at h
    split at h
    · split at h
      · cases h; exact sound_alloc hop (by assumption)
      · cases h
    · cases h
  | box t x =>
    simp only [hop] at h
    obtain ⟨y, hy, rfl⟩ := oneOpt h
    exact sound_box hop hy
  | build t parts =>
    simp only [hop] at h
    split at h
    · split at h
      · split at h
        · rename_i hc
          simp only [Bool.and_eq_true] at hc
          cases h
          exact sound_build hop (by assumption) (by assumption) (by assumption) hc.2
        · cases h
      · cases h
    · split at h
      · split at h
        · split at h
          · cases h
            exact sound_buildA hop (by assumption) (by assumption) (by assumption) (by assumption)
          · cases h
        · cases h
      · cases h
    · cases h
  | buildSlice t len parts =>
    simp only [hop] at h
    split at h
    · split at h
      · split at h
        · split at h
          · rename_i hc
            obtain ⟨h1, h2, h3, h4⟩ := hc
            cases h
            exact sound_bslice hop (by assumption) (by assumption) (by assumption) (by simpa using h4) h1 h2 h3 (by assumption)
          · cases h
        · split at h
          · rename_i hc
            exact absurd hc.2.2.2 (by simp)
          · cases h
      · cases h
    · cases h
  | load t x =>
    simp only [hop] at h
    split at h
    · cases h; exact sound_load hop (by assumption) (by assumption)
    · cases h
  | store t x y =>
    simp only [hop] at h
    split at h
    · cases h
    · rename_i hne hs hx hy
      cases h; exact sound_store hop hs (fun e => by subst e; exact hne rfl) hx hy
    · cases h
  | binOp op t x y u =>
    simp only [hop] at h
    split at h
    · split at h
      · split at h
        · cases h; exact sound_eqS hop rfl (by assumption) (by assumption) (by assumption)
        · cases h; exact sound_eqS hop rfl (by assumption) (by assumption) (by assumption)
        · cases h
      · split at h
        · cases h; exact sound_bin hop (by assumption) (by assumption)
        · split at h
          · cases h; exact sound_binB hop rfl (by assumption) (by assumption) (by assumption)
          · cases h; exact sound_binB hop rfl (by assumption) (by assumption) (by assumption)
          · cases h
        · cases h
    · cases h
  | unOp op t x =>
    simp only [hop] at h
    split at h
    · cases h; exact sound_neg hop (by assumption)
    · cases h; exact sound_not hop (by assumption)
    · cases h
  | fieldAddr s x i =>
    simp only [hop] at h
    split at h
    · split at h
      · split at h
        · split at h
          · cases h
          · cases h; exact sound_faddr hop (by assumption) (by assumption) (by assumption) (by assumption) (by assumption)
        · cases h
      · cases h
    · cases h
  | field s x i =>
    simp only [hop] at h
    split at h
    · split at h
      · split at h
        · cases h; exact sound_fld hop (by assumption) (by assumption) (by assumption) (by assumption)
        · cases h
      · cases h
    · cases h
  | indexAddr t x i =>
    simp only [hop] at h
    split at h
    · split at h
      · cases h; exact sound_iaddrS hop (by assumption) (by assumption) (by assumption) (by assumption)
      · cases h
    · split at h
      · cases h; exact sound_iaddrA hop (by assumption) (by assumption) (by assumption) (by assumption)
      · cases h
    · cases h
  | index t x i =>
    simp only [hop] at h
    split at h
    · split at h
      · cases h; exact sound_idxA hop (by assumption) (by assumption) (by assumption) (by assumption) (by assumption)
      · cases h
    · cases h
  | extract x i =>
    simp only [hop] at h
    obtain ⟨y, hy, rfl⟩ := oneOpt h
    exact sound_ext hop hy
  | makeSlice t l c =>
    simp only [hop] at h
    split at h
    · split at h
      · split at h
        · split at h
          · rename_i hc
            obtain ⟨rfl, h1, h2, h3⟩ := hc
            cases h; exact sound_mks hop (by assumption) (by assumption) (by assumption) h2 h1 h3 (by assumption)
          · cases h
        · cases h
      · cases h
    · cases h
  | slice t x lo hi mx =>
    simp only [hop] at h
    split at h
    · split at h
      · cases h; exact sound_sl hop (by assumption) (by assumption) (by assumption) (.inl ⟨rfl, rfl⟩) (.inl ⟨rfl, rfl⟩)
      · obtain ⟨y, hy, rfl⟩ := oneOpt h
        exact sound_sl hop (by assumption) (by assumption) (by assumption) (.inr ⟨_, _, rfl, rfl, hy⟩) (.inl ⟨rfl, rfl⟩)
      · obtain ⟨y, hy, rfl⟩ := oneOpt h
        exact sound_sl hop (by assumption) (by assumption) (by assumption) (.inl ⟨rfl, rfl⟩) (.inr ⟨_, _, rfl, rfl, hy⟩)
      · split at h
        · cases h; exact sound_sl hop (by assumption) (by assumption) (by assumption) (.inr ⟨_, _, rfl, rfl, by assumption⟩) (.inr ⟨_, _, rfl, rfl, by assumption⟩)
        · cases h
      · cases h
    · cases h
  | makeMap t r =>
    cases r with
    | none => simp only [hop] at h; cases h; exact sound_mkm hop
    | some r => simp only [hop] at h; cases h
  | mapUpdate t x y z =>
    simp only [hop] at h
    split at h
    · split at h
      · cases h; exact sound_mset (.inl hop) (by assumption) (by assumption) (by assumption) (by assumption) (by assumption)
      · cases h
    · cases h
  | insert t x y z =>
    simp only [hop] at h
    split at h
    · split at h
      · cases h; exact sound_mset (.inr hop) (by assumption) (by assumption) (by assumption) (by assumption) (by assumption)
      · cases h
    · cases h
  | range t x =>
    simp only [hop] at h
    split at h
    · cases h; exact sound_rng hop (by assumption) (by assumption)
    · cases h
  | entry x =>
    simp only [hop] at h
    obtain ⟨y, hy, rfl⟩ := oneOpt h
    exact sound_ent hop hy
  | makeFunc fn fst caps =>
    cases fn with
    | func f =>
      simp only [hop] at h
      split at h
      · cases h; exact sound_mkf hop (by assumption) (by assumption)
      · cases h
    | _ => rw [hop] at h; cases h
  | call c =>
    simp only [hop] at h
    obtain ⟨callee, args, ts⟩ := c
    have cons1 : ∀ (l : List Operand) (y : Opd) (ys : List Opd), copds l = some (y :: ys) → ∃ x r, l = x :: r ∧ copd x = some y ∧ copds r = some ys := fun l y ys hl => by
      cases l with
      | nil => simp [copds] at hl
      | cons x r =>
        simp only [copds] at hl
        split at hl
        · rename_i y' l' h1 h2
          simp only [Option.some.injEq, List.cons.injEq] at hl
          obtain ⟨rfl, rfl⟩ := hl
          exact ⟨x, r, rfl, h1, h2⟩
        · cases hl
    have nil1 : ∀ (l : List Operand), copds l = some [] → l = [] := fun l hl => by
      cases l with
      | nil => rfl
      | cons x r =>
        simp only [copds] at hl
        split at hl <;> cases hl
    have arr : ∀ {α : Type} (l : Array α) (r : List α), l.toList = r → l = r.toArray := fun l r e => by rw [← e]
    simp only at h
    split at h
    · rename_i f xs hxs
      split at h
      · cases h; exact sound_call hop (by assumption) hxs
      · cases h
    · rename_i t xs hxs
      cases h; exact sound_callc hop hxs
    · rename_i x hxs
      obtain ⟨a1, r1, e1, e2, e3⟩ := cons1 _ _ _ hxs
      obtain rfl := nil1 _ e3
      obtain rfl := arr _ _ e1
      split at h
      · rename_i t ht
        obtain rfl := arr _ _ ht
        split at h
        · cases h; exact sound_len hop (by assumption) e2
        · cases h
      · cases h
    · rename_i x y hxs
      obtain ⟨a1, r1, e1, e2, e3⟩ := cons1 _ _ _ hxs
      obtain ⟨a2, r2, rfl, e4, e5⟩ := cons1 _ _ _ e3
      obtain rfl := nil1 _ e5
      obtain rfl := arr _ _ e1
      cases h; exact sound_max hop e2 e4
    · rename_i x y hxs
      obtain ⟨a1, r1, e1, e2, e3⟩ := cons1 _ _ _ hxs
      obtain ⟨a2, r2, rfl, e4, e5⟩ := cons1 _ _ _ e3
      obtain rfl := nil1 _ e5
      obtain rfl := arr _ _ e1
      split at h
      · rename_i t u ht
        obtain rfl := arr _ _ ht
        split at h
        · rename_i htu
          subst htu
          split at h
          · split at h
            · split at h
              · split at h
                · rename_i hc
                  cases h
                  exact sound_app hop (by assumption) (by assumption) (by assumption) hc.2 e2 e4
                · cases h
              · cases h
            · cases h
          · cases h
        · cases h
      · cases h
    · cases h
  | _ => rw [hop] at h; cases h
end
end Go.Proofs.Ytfljlpijhagloaa
