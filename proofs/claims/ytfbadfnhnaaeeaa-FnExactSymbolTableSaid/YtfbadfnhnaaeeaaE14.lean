/- The abstract machine: every operation that is taken over does what Go's does. -/
import Derived.Test.YtfbadfnhnaaeeaaEM
namespace Go.Proofs.Ytfbadfnhnaaeeaa
set_option linter.unusedSimpArgs false
set_option linter.unusedVariables false
open Go.RowKit

section
variable {P : Program} {M : Mem} {T : List V} {d : Nat}

theorem oneOpt {α β : Type} {x : Option α} {f : α → β} {y : β} (h : x.map f = some y) : ∃ z, x = some z ∧ f z = y := by
  cases x with
  | none => cases h
  | some z => exact ⟨z, rfl, Option.some.inj h⟩

/-- Integers compared, one after the other. -/
theorem eqK_ex : ∀ {lx ly : List Value} {k : Bool → Prop}, eqK lx ly k → ∃ (l1 l2 : List Int) (b : Bool), k b ∧ lx = l1.map (.int .i64) ∧ ly = l2.map (.int .i64) ∧ l1.length = l2.length ∧ b = (l1 == l2)
  | [], [], k, h => ⟨[], [], true, h, rfl, rfl, rfl, rfl⟩
  | x :: r, y :: r', k, h => by
    simp only [eqK] at h
    split at h
    case h_2 => exact h.elim
    rename_i a b ha hb
    obtain rfl := asI_some ha
    obtain rfl := asI_some hb
    obtain ⟨l1, l2, c, h1, rfl, rfl, h2, rfl⟩ := eqK_ex (lx := r) (ly := r') h
    exact ⟨a :: l1, b :: l2, _, h1, rfl, rfl, by simp [h2], by simp [List.cons_beq_cons]⟩
  | [], _ :: _, _, h => h.elim
  | _ :: _, [], _, h => h.elim

theorem drop_eq_iff {l1 l2 : List Int} {off m : Nat} (h1 : off + m ≤ l1.length) (h2 : l1.length = l2.length) : (l1.drop off == l2.drop off) = (((l1.drop off).take m == (l2.drop off).take m) && (l1.drop (off + m) == l2.drop (off + m))) := by
  have e : ∀ l : List Int, off + m ≤ l.length → l.drop off = (l.drop off).take m ++ l.drop (off + m) := fun l h => by
    rw [← List.drop_drop, List.take_append_drop]
  rw [Bool.eq_iff_iff]
  simp only [Bool.and_eq_true, beq_iff_eq]
  constructor
  · intro h
    exact ⟨by rw [h], by rw [← List.drop_drop, h, List.drop_drop]⟩
  · rintro ⟨a, b⟩
    rw [e l1 h1, e l2 (by omega), a, b]

theorem flatF_ok (P : Program) (rec : TypeId → Option Nat) (D : Nat) (l1 l2 : List Int) (w : World) (hl : l1.length = l2.length)
    (hrec : ∀ t n (m1 m2 : List Int), rec t = some n → m1.length = n → m2.length = n → (Op.equalIn D t (.agg (m1.map (.int .i64)).toArray) (.agg (m2.map (.int .i64)).toArray)).run P w = .ok (m1 == m2) w) (hD : ∃ D', D = D' + 1) :
    ∀ (fl : List Field) (off n : Nat), flatF P rec fl off = some n → n = l1.length → off ≤ n ∧ (Op.eqFields D (l1.map (.int .i64)).toArray (l2.map (.int .i64)).toArray fl).run P w = .ok (l1.drop off == l2.drop off) w
  | [], off, n, h, hn => by
    simp only [flatF, Option.some.injEq] at h
    subst h
    refine ⟨Nat.le_refl _, ?_⟩
    rw [List.drop_eq_nil_of_le (by omega), List.drop_eq_nil_of_le (by omega)]
    simp [Op.eqFields]
  | f :: fl, off, n, h, hn => by
    simp only [flatF] at h
    split at h
    case isFalse => cases h
    rename_i hc
    simp only [Bool.and_eq_true, bne_iff_ne, ne_eq, beq_iff_eq] at hc
    obtain ⟨hname, hoff⟩ := hc
    have part_ : ∀ (m : Nat) (s : Option Nat) (l : List Int), csize P f.type = some s → s.getD 1 = m → off + m ≤ l.length → (part f.type (l.map (.int .i64)).toArray f.offset).run P w = .ok (vload s (((l.drop off).take m).map (.int .i64))) w := fun m s l hs hm hle => by
      have := run_part_known (w := w) hs (l.map (.int .i64)).toArray off (by simp; omega)
      rw [hoff, this, hm]
      simp [List.map_take, List.map_drop]
    have fin : ∀ (m : Nat) (vx vy : Value), (part f.type (l1.map (.int .i64)).toArray f.offset).run P w = .ok vx w → (part f.type (l2.map (.int .i64)).toArray f.offset).run P w = .ok vy w →
        (Op.equalIn D f.type vx vy).run P w = .ok ((l1.drop off).take m == (l2.drop off).take m) w → off + m ≤ l1.length → flatF P rec fl (off + m) = some n →
        off ≤ n ∧ (Op.eqFields D (l1.map (.int .i64)).toArray (l2.map (.int .i64)).toArray (f :: fl)).run P w = .ok (l1.drop off == l2.drop off) w := fun m vx vy p1 p2 p3 hle hr => by
      obtain ⟨r1, r2⟩ := flatF_ok P rec D l1 l2 w hl hrec hD fl (off + m) n hr hn
      refine ⟨by omega, ?_⟩
      simp only [Op.eqFields]
      rw [if_pos hname, drop_eq_iff hle hl]
      simp only [Sem.run_bind, p1, p2, p3, Result.andThen_ok, Sem.run_ite, r2, Sem.run_pure]
      cases ((l1.drop off).take m == (l2.drop off).take m) <;> simp
    have bound : ∀ m, flatF P rec fl (off + m) = some n → off + m ≤ l1.length := fun m hr => by
      have := (flatF_ok P rec D l1 l2 w hl hrec hD fl (off + m) n hr hn).1
      omega
    split at h
    · rename_i hu hs
      have hle := bound 1 h
      have g1 : (l1.drop off).take 1 = [l1[off]] := by rw [List.drop_eq_getElem_cons (by omega)]; rfl
      have g2 : (l2.drop off).take 1 = [l2[off]] := by rw [List.drop_eq_getElem_cons (by omega)]; rfl
      refine fin 1 _ _ (part_ 1 none l1 hs rfl hle) (part_ 1 none l2 hs rfl (by omega)) ?_ hle h
      obtain ⟨D', rfl⟩ := hD
      rw [g1, g2]
      have := run_equalIn_int (P := P) w D' f.type .i64 .i64 l1[off] l2[off] hu
      simpa [vload] using this
    · rename_i m hu hs
      split at h
      · rename_i n' hr
        split at h
        · rename_i hnm
          subst hnm
          have hle := bound n' h
          refine fin n' _ _ (part_ n' _ l1 hs rfl hle) (part_ n' _ l2 hs rfl (by omega)) ?_ hle h
          exact hrec f.type n' _ _ hr (by simp; omega) (by simp; omega)
        · cases h
      · cases h
    · cases h

theorem flatT_ok (P : Program) (w : World) : ∀ (d D : Nat) (t : TypeId) (n : Nat) (l1 l2 : List Int), flatT P d t = some n → l1.length = n → l2.length = n → (Op.equalIn (D + d + 1) t (.agg (l1.map (.int .i64)).toArray) (.agg (l2.map (.int .i64)).toArray)).run P w = .ok (l1 == l2) w
  | 0, _, _, _, _, _, h, _, _ => by cases h
  | d + 1, D, t, n, l1, l2, h, h1, h2 => by
    simp only [flatT] at h
    split at h
    case h_2 => cases h
    rename_i fs hu
    split at h
    case isFalse => cases h
    rename_i hs
    have hfo : P.fieldsOf t = fs := by simp [Program.fieldsOf, hu]
    have q := run_equalIn_agg (P := P) w (D + d + 1) t (l1.map (.int .i64)).toArray (l2.map (.int .i64)).toArray (by rw [hu, hfo]) (by simpa using hs)
    have r := (flatF_ok P (flatT P d) (D + d + 1) l1 l2 w (by omega) (fun t n m1 m2 ht e1 e2 => flatT_ok P w d D t n m1 m2 ht e1 e2) ⟨_, rfl⟩ fs.toList 0 n h (by omega)).2
    rw [hfo, r] at q
    exact q

theorem aggK_ex {u : V} {k : List Value → Prop} (h : aggK u k) : ∃ vs, k vs ∧ ∀ w0 F G M v, ConcV w0 F G M u v → ∃ arr : Array Value, v = .agg arr ∧ arr.toList = vs := by
  cases u with
  | agg l =>
    obtain ⟨vs, h1, h2⟩ := pvsK_ex h
    exact ⟨vs, h1, fun w0 F G M v ⟨arr, e1, e2⟩ => ⟨arr, e1, h2 _ _ _ _ _ e2⟩⟩
  | _ => exact h.elim

theorem sound_eqS {o : Oper} {op : BinOp} {ng : Bool} {n : Nat} {t u : TypeId} {x y : Operand} {x' y' : Opd} (ho : o.op = .binOp op t x y u) (hop : op = if ng then .neq else .eql) (ht : flatS P t = some n) (hx : copd x = some x') (hy : copd y = some y') {k : V → Eff → List Nm → Prop} : Sound P M T d o (.eqS ng n x' y') k := fun h => by
  obtain ⟨u1, h1, hv1⟩ := evK_ex hx h
  obtain ⟨u2, h2, hv2⟩ := evK_ex hy h1
  obtain ⟨lx, h3, hlx⟩ := aggK_ex h2
  obtain ⟨ly, h4, hly⟩ := aggK_ex h3
  obtain ⟨h5, h6⟩ := guardK_iff.1 h4
  obtain ⟨l1, l2, b, h7, rfl, rfl, h8, rfl⟩ := eqK_ex h6
  have hn := Nat.eq_of_beq_eq_true h5
  simp only [List.length_map] at hn
  unfold flatS at ht
  split at ht
  case isFalse => cases ht
  rename_i c2
  have c2' : P.eqGuardType P.depth t = false := by simpa using c2
  have run : ∀ (a : Act) (w : World) (vx vy : Array Value), a.eval x = .agg vx → a.eval y = .agg vy → vx.toList = l1.map (.int .i64) → vy.toList = l2.map (.int .i64) → (execOp a.eval o).run P w = .ok (.value (.bool (if ng then !(l1 == l2) else (l1 == l2)))) w := fun a w vx vy e1 e2 e3 e4 => by
    have f3 : vx = (l1.map (.int .i64)).toArray := by rw [← e3]
    have f4 : vy = (l2.map (.int .i64)).toArray := by rw [← e4]
    have g := run_eqGuard_agg (P := P) w op t x y vx vy c2'
    have q := flatT_ok P w 3 9996 t n l1 l2 ht hn (by omega)
    rw [← f3, ← f4] at q
    subst hop
    cases ng with
    | true =>
      have := run_neq_struct (P := P) w t vx vy
      simp only [if_true] at g this ho ⊢
      simp [execOp, ho, e1, e2, g, this, q]
    | false =>
      have := run_eql_struct (P := P) w t vx vy
      simp only [Bool.false_eq_true, if_false] at g this ho ⊢
      simp [execOp, ho, e1, e2, g, this, q]
  have fin : ∀ (a : Act) (w : World) w0 F G M' T', (∀ t, t ∈ opdT x' ++ opdT y' → T'[t]? = T[t]?) → TRel w0 F G M' T' a → (execOp a.eval o).run P w = .ok (.value (.bool (if ng then !(l1 == l2) else (l1 == l2)))) w := fun a w w0 F G M' T' g1 hT => by
    obtain ⟨vx, e1, e2⟩ := hlx _ _ _ _ _ (hv1 w0 F G M' T' a (fun q hq => g1 q (by simp [hq])) hT)
    obtain ⟨vy, e3, e4⟩ := hly _ _ _ _ _ (hv2 w0 F G M' T' a (fun q hq => g1 q (by simp [hq])) hT)
    exact run a w vx vy e1 e3 e2 e4
  cases ng with
  | true => exact ⟨_, _, _, h7, does_pure fun w0 F G M' T' a w g1 g2 hR hT => ⟨_, fin a w w0 F G M' T' g1 hT, rfl⟩⟩
  | false => exact ⟨_, _, _, h7, does_pure fun w0 F G M' T' a w g1 g2 hR hT => ⟨_, fin a w w0 F G M' T' g1 hT, rfl⟩⟩

theorem cop_mv {o : Oper} {ao : AOp} {x : Operand} (hop : o.op = .move x ∨ o.op = .assign x) (h : cmv P o.type x = some ao) {k : V → Eff → List Nm → Prop} : Sound P M T d o ao k := by
  unfold cmv at h
  split at h
  · split at h
    · split at h
      · split at h
        · cases h; exact sound_nilC hop rfl
        · split at h
          · cases h; exact sound_nilS (t := 0) hop rfl (by assumption)
          · cases h
      · cases h
    · cases h
  · obtain ⟨y, hy, rfl⟩ := oneOpt h
    exact sound_mv hop hy

theorem cop_sound {o : Oper} {ao : AOp} (h : cop P d o = some ao) {k : V → Eff → List Nm → Prop} : Sound P M T d o ao k := by
  unfold cop at h
  cases hop : o.op with
  | move x => simp only [hop] at h; exact cop_mv (.inl hop) h
  | assign x => simp only [hop] at h; exact cop_mv (.inr hop) h
  | pick c a b =>
    simp only [hop] at h
    split at h
    · cases h; exact sound_pick hop (by assumption) (by assumption) (by assumption)
    · cases h
  | alloc t =>
    simp only [hop] at h
    split at h
    · split at h
      · cases h; exact sound_alloc hop (by assumption)
      · cases h
    · cases h
  | box t x =>
    simp only [hop] at h
    obtain ⟨y, hy, rfl⟩ := oneOpt h
    exact sound_box hop hy
  | build t parts =>
    simp only [hop] at h
    split at h
    · split at h
      · split at h
        · rename_i hc
          simp only [Bool.and_eq_true] at hc
          cases h
          exact sound_build hop (by assumption) (by assumption) (by assumption) hc.2
        · cases h
      · cases h
    · split at h
      · split at h
        · split at h
          · cases h
            exact sound_buildA hop (by assumption) (by assumption) (by assumption) (by assumption)
          · cases h
        · cases h
      · cases h
    · cases h
  | buildSlice t len parts =>
    simp only [hop] at h
    split at h
    · split at h
      · split at h
        · split at h
          · rename_i hc
            obtain ⟨h1, h2, h3, h4⟩ := hc
            split at h
            · split at h
              · cases h
                exact sound_bsliceC hop (by assumption) (by assumption) (by assumption) (by simpa using h4) (by assumption) h2 h3 (by assumption)
              · cases h
            · cases h
              exact sound_bslice hop (by assumption) (by assumption) (by assumption) (by simpa using h4) h1 h2 h3 (by assumption)
          · cases h
        · split at h
          · rename_i hc
            exact absurd hc.2.2.2 (by simp)
          · cases h
      · cases h
    · cases h
  | load t x =>
    simp only [hop] at h
    split at h
    · cases h; exact sound_load hop (by assumption) (by assumption)
    · cases h
  | store t x y =>
    simp only [hop] at h
    split at h
    · cases h
    · rename_i hne hs hx hy
      cases h; exact sound_store hop hs (fun e => by subst e; exact hne rfl) hx hy
    · cases h
  | binOp op t x y u =>
    simp only [hop] at h
    split at h
    · split at h
      · split at h
        · cases h; exact sound_eqS hop rfl (by assumption) (by assumption) (by assumption)
        · cases h; exact sound_eqS hop rfl (by assumption) (by assumption) (by assumption)
        · cases h
      · split at h
        · split at h
          · cases h; exact sound_shr hop (by assumption) (by assumption)
          · cases h; exact sound_binU hop (by assumption) (by assumption)
          · cases h; exact sound_bin hop (by assumption) (by assumption)
        · split at h
          · cases h; exact sound_shr hop (by assumption) (by assumption)
          · cases h; exact sound_binU hop (by assumption) (by assumption)
        · split at h
          · cases h; exact sound_binB hop rfl (by assumption) (by assumption) (by assumption)
          · cases h; exact sound_binB hop rfl (by assumption) (by assumption) (by assumption)
          · cases h
        · cases h; exact sound_strop hop (by assumption) (by assumption)
        · cases h
    · cases h
  | unOp op t x =>
    simp only [hop] at h
    split at h
    · cases h; exact sound_neg hop (by assumption)
    · cases h; exact sound_not hop (by assumption)
    · cases h
  | fieldAddr s x i =>
    simp only [hop] at h
    split at h
    · split at h
      · split at h
        · split at h
          · cases h
          · cases h; exact sound_faddr hop (by assumption) (by assumption) (by assumption) (by assumption) (by assumption)
        · cases h
      · cases h
    · cases h
  | field s x i =>
    simp only [hop] at h
    split at h
    · split at h
      · split at h
        · cases h; exact sound_fld hop (by assumption) (by assumption) (by assumption) (by assumption)
        · cases h
      · cases h
    · cases h
  | indexAddr t x i =>
    simp only [hop] at h
    split at h
    · split at h
      · cases h; exact sound_iaddrS hop (by assumption) (by assumption) (by assumption) (by assumption)
      · cases h
    · split at h
      · cases h; exact sound_iaddrA hop (by assumption) (by assumption) (by assumption) (by assumption)
      · cases h
    · cases h
  | index t x i =>
    simp only [hop] at h
    split at h
    · split at h
      · cases h; exact sound_idxA hop (by assumption) (by assumption) (by assumption) (by assumption) (by assumption)
      · cases h
    · cases h; exact sound_sidx hop (by assumption) (by assumption) (by assumption)
    · cases h
  | extract x i =>
    simp only [hop] at h
    obtain ⟨y, hy, rfl⟩ := oneOpt h
    exact sound_ext hop hy
  | makeSlice t l c =>
    simp only [hop] at h
    split at h
    · split at h
      · split at h
        · split at h
          · rename_i hc
            obtain ⟨rfl, h1, h2, h3⟩ := hc
            cases h; exact sound_mks hop (by assumption) (by assumption) (by assumption) h2 h1 h3 (by assumption)
          · cases h
        · cases h
      · cases h
    · split at h
      · split at h
        · split at h
          · rename_i hc
            obtain ⟨rfl, h1, h2, h3⟩ := hc
            cases h; exact sound_mks hop (by assumption) (by assumption) (by assumption) h2 h1 h3 (by assumption)
          · cases h
        · cases h
      · cases h
    · cases h
  | slice t x lo hi mx =>
    simp only [hop] at h
    split at h
    · split at h
      · cases h; exact sound_sl hop (by assumption) (by assumption) (by assumption) (.inl ⟨rfl, rfl⟩) (.inl ⟨rfl, rfl⟩)
      · obtain ⟨y, hy, rfl⟩ := oneOpt h
        exact sound_sl hop (by assumption) (by assumption) (by assumption) (.inr ⟨_, _, rfl, rfl, hy⟩) (.inl ⟨rfl, rfl⟩)
      · obtain ⟨y, hy, rfl⟩ := oneOpt h
        exact sound_sl hop (by assumption) (by assumption) (by assumption) (.inl ⟨rfl, rfl⟩) (.inr ⟨_, _, rfl, rfl, hy⟩)
      · split at h
        · cases h; exact sound_sl hop (by assumption) (by assumption) (by assumption) (.inr ⟨_, _, rfl, rfl, by assumption⟩) (.inr ⟨_, _, rfl, rfl, by assumption⟩)
        · cases h
      · cases h
    · split at h
      · split at h
        · cases h; exact sound_ssub hop (by assumption) (by assumption) (by assumption) (by assumption)
        · cases h
      · cases h
    · cases h
  | nilCheck x =>
    simp only [hop] at h
    obtain ⟨y, hy, rfl⟩ := oneOpt h
    exact sound_nchk hop hy
  | sliceToArrayPointer t x =>
    simp only [hop] at h
    split at h
    · cases h; exact sound_s2a hop (by assumption) (by assumption)
    · cases h
  | convert s t x =>
    simp only [hop] at h
    split at h
    · cases h; exact sound_conv hop (by assumption) (by assumption) (by assumption)
    · cases h
  | makeMap t r =>
    cases r with
    | none => simp only [hop] at h; cases h; exact sound_mkm hop
    | some r => simp only [hop] at h; cases h
  | mapUpdate t x y z =>
    simp only [hop] at h
    split at h
    · split at h
      · cases h; exact sound_mset (.inl hop) (by assumption) (by assumption) (by assumption) (by assumption) (by assumption)
      · cases h
    · cases h
  | insert t x y z =>
    simp only [hop] at h
    split at h
    · split at h
      · cases h; exact sound_mset (.inr hop) (by assumption) (by assumption) (by assumption) (by assumption) (by assumption)
      · cases h
    · cases h
  | range t x =>
    simp only [hop] at h
    split at h
    · cases h; exact sound_rng hop (by assumption) (by assumption)
    · cases h
  | entry x =>
    simp only [hop] at h
    obtain ⟨y, hy, rfl⟩ := oneOpt h
    exact sound_ent hop hy
  | makeFunc fn fst caps =>
    cases fn with
    | func f =>
      simp only [hop] at h
      split at h
      · cases h; exact sound_mkf hop (by assumption) (by assumption)
      · cases h
    | _ => rw [hop] at h; cases h
  | call c =>
    simp only [hop] at h
    obtain ⟨callee, args, ts⟩ := c
    have cons1 : ∀ (l : List Operand) (y : Opd) (ys : List Opd), copds l = some (y :: ys) → ∃ x r, l = x :: r ∧ copd x = some y ∧ copds r = some ys := fun l y ys hl => by
      cases l with
      | nil => simp [copds] at hl
      | cons x r =>
        simp only [copds] at hl
        split at hl
        · rename_i y' l' h1 h2
          simp only [Option.some.injEq, List.cons.injEq] at hl
          obtain ⟨rfl, rfl⟩ := hl
          exact ⟨x, r, rfl, h1, h2⟩
        · cases hl
    have nil1 : ∀ (l : List Operand), copds l = some [] → l = [] := fun l hl => by
      cases l with
      | nil => rfl
      | cons x r =>
        simp only [copds] at hl
        split at hl <;> cases hl
    have arr : ∀ {α : Type} (l : Array α) (r : List α), l.toList = r → l = r.toArray := fun l r e => by rw [← e]
    simp only at h
    split at h
    · rename_i f xs hxs
      split at h
      · cases h; exact sound_call hop (by assumption) hxs
      · cases h
    · rename_i t xs hxs
      cases h; exact sound_callc hop hxs
    · rename_i x hxs
      obtain ⟨a1, r1, e1, e2, e3⟩ := cons1 _ _ _ hxs
      obtain rfl := nil1 _ e3
      obtain rfl := arr _ _ e1
      split at h
      · rename_i t ht
        obtain rfl := arr _ _ ht
        split at h
        · cases h; exact sound_len hop (by assumption) e2
        · cases h; exact sound_slen hop (by assumption) e2
        · cases h
      · cases h
    · rename_i x y hxs
      obtain ⟨a1, r1, e1, e2, e3⟩ := cons1 _ _ _ hxs
      obtain ⟨a2, r2, rfl, e4, e5⟩ := cons1 _ _ _ e3
      obtain rfl := nil1 _ e5
      obtain rfl := arr _ _ e1
      cases h; exact sound_max hop e2 e4
    · rename_i x y hxs
      obtain ⟨a1, r1, e1, e2, e3⟩ := cons1 _ _ _ hxs
      obtain ⟨a2, r2, rfl, e4, e5⟩ := cons1 _ _ _ e3
      obtain rfl := nil1 _ e5
      obtain rfl := arr _ _ e1
      split at h
      · rename_i t u ht
        obtain rfl := arr _ _ ht
        split at h
        · rename_i htu
          subst htu
          split at h
          · split at h
            · split at h
              · split at h
                · rename_i hc
                  cases h
                  exact sound_app hop (by assumption) (by assumption) (by assumption) hc.2 e2 e4
                · cases h
              · cases h
            · cases h
          · cases h
        · cases h
      · cases h
    · cases h
  | _ => rw [hop] at h; cases h
end
end Go.Proofs.Ytfbadfnhnaaeeaa
