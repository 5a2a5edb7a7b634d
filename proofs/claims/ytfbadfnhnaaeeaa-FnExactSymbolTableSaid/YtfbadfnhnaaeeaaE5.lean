/- The abstract machine: loads, arithmetic, addresses. -/
import Derived.Test.YtfbadfnhnaaeeaaE4
namespace Go.Proofs.Ytfbadfnhnaaeeaa
set_option linter.unusedSimpArgs false
set_option linter.unusedVariables false
open Go.RowKit

section
variable {P : Program} {w0 : World} {F : Nat → Prop} {G : Gh} {M : Mem} {w : World} {T : List V} {a : Act} {o : Oper} {d : Nat}

/-- A load out of cells that are known. -/
theorem run_load_known {t : TypeId} {s : Option Nat} (hs : csize P t = some s) (B j : Nat) (vs : List Value) (hl : vs.length = s.getD 1) (hc : ∀ i v, vs[i]? = some v → w.cell? ⟨B, j + i, none⟩ = some v) :
    (Instr.loadAt t (.pointer (some ⟨B, j, none⟩))).run P w = .ok (vload s vs) w := by
  have hc' : ∀ (i : Nat) v, vs[i]? = some v → w.cell? ((⟨B, j, none⟩ : Addr).add i) = some v := fun i v h => by rw [Addr.add_lit]; exact hc i v h
  have agg : ∀ n, vs.length = n → (loadCells ⟨B, j, none⟩ n).run P w = .ok vs.toArray w := fun n hn => by
    subst hn; exact run_loadCells_list w _ vs hc'
  unfold csize at hs
  cases hu : P.underlying t with
  | none => rw [hu] at hs; simp at hs
  | some td =>
    cases hi : P.info? t with
    | none => rw [hu, hi] at hs; cases td <;> simp at hs
    | some i =>
      rw [hu, hi] at hs
      have one : (if i.size = 1 then some none else none : Option (Option Nat)) = some s → s = none := fun h => by
        split at h
        · cases h; rfl
        · cases h
      cases td with
      | struct fs =>
        simp only [Option.some.injEq] at hs
        subst hs
        simp [Instr.loadAt, Instr.sureAddr, loadVar, isAgg, run_underlying hu, sizeOf, typeInfo, hi, agg i.size (by simpa using hl), vload]
      | array n e =>
        simp only [Option.some.injEq] at hs
        subst hs
        simp [Instr.loadAt, Instr.sureAddr, loadVar, isAgg, run_underlying hu, sizeOf, typeInfo, hi, agg i.size (by simpa using hl), vload]
      | _ =>
        have := one hs
        subst this
        obtain ⟨v, rfl⟩ : ∃ v, vs = [v] := by
          match vs, hl with
          | [v], _ => exact ⟨v, rfl⟩
        have h0 := hc 0 v rfl
        simp only [Nat.add_zero] at h0
        simp [Instr.loadAt, Instr.sureAddr, loadVar, isAgg, run_underlying hu, h0, vload]

theorem flat_get {l : List (List Value)} {sz : Nat} (hl : ∀ r ∈ l, r.length = sz) {i j : Nat} {r : List Value} (hi : l[i]? = some r) (hj : j < sz) : l.flatten[i * sz + j]? = r[j]? := by
  induction l generalizing i with
  | nil => simp at hi
  | cons x l ih =>
    have hx := hl x (by simp)
    cases i with
    | zero =>
      simp at hi
      subst hi
      simp only [List.flatten_cons, Nat.zero_mul, Nat.zero_add]
      rw [List.getElem?_append_left (by omega)]
    | succ i =>
      simp at hi
      simp only [List.flatten_cons]
      rw [List.getElem?_append_right (by rw [hx, Nat.succ_mul]; omega), hx, show (i + 1) * sz + j - sz = i * sz + j by rw [Nat.succ_mul]; omega]
      exact ih (fun r hr => hl r (by simp [hr])) hi

theorem sub_get {α : Type} (vs : List α) (j n i : Nat) {v : α} (h : ((vs.drop j).take n)[i]? = some v) : i < n ∧ vs[j + i]? = some v := by
  rw [List.getElem?_take] at h
  split at h
  · exact ⟨by assumption, by simpa using h⟩
  · cases h

theorem Rel.bx {n : Nm} {l : List C} (h : Rel w0 F G M w) (hn : M n = some (.bx l)) : ∃ B c ety, G n = .pointer (some ⟨B, 0, none⟩) ∧ ¬ F B ∧ w.heap[B]? = some (.cells c ety (0, 0)) ∧ ConcCs w0 F G M l c.toList := h.own n _ hn
theorem Rel.fl {n : Nm} {e : TypeId} {sz : Nat} {l : List (List Value)} (h : Rel w0 F G M w) (hn : M n = some (.fl e sz l)) :
    0 < sz ∧ (∀ r ∈ l, r.length = sz) ∧ (∀ r ∈ l, ∀ v ∈ r, v.oneCell' = true) ∧ w.ownsRow 0 e sz (G n) l.length l.flatten ∧ ∀ B, (G n).ownBlock = some B → ¬ F B := h.own n _ hn

/-- An element's cells in memory. -/
theorem Rel.elem {n : Nm} {e : TypeId} {sz i : Nat} {l : List (List Value)} {es : List Value} (h : Rel w0 F G M w) (hn : M n = some (.fl e sz l)) (hi : l[i]? = some es) {B m cap : Nat} (hg : G n = .slice (some ⟨B, 0, none⟩) m cap) :
    es.length = sz ∧ ∀ j v, es[j]? = some v → w.cell? ⟨B, i * sz + j, none⟩ = some v := by
  obtain ⟨h1, h2, h3, h4, h5⟩ := h.fl hn
  have hm := h2 es (List.mem_of_getElem? hi)
  refine ⟨hm, fun j v hv => ?_⟩
  have hj : j < sz := by rw [← hm]; exact (List.getElem?_eq_some_iff.1 hv).1
  have := h4.cells (g := B) (by rw [hg]; rfl) (i * sz + j) v (by rw [flat_get h2 hi hj]; exact hv)
  rwa [Addr.add_lit, Nat.zero_add] at this

theorem sound_load {t : TypeId} {x : Operand} {y : Opd} {s : Option Nat} (ho : o.op = .load t x) (hs : csize P t = some s) (hc : copd x = some y) {k : V → Eff → List Nm → Prop} : Sound P M T d o (.load s y) k := fun h => by
  obtain ⟨u, hu, hv⟩ := evK_ex hc h
  have run : ∀ (a : Act) (w : World) (v g : Value), a.eval x = g → (Instr.loadAt t g).run P w = .ok v w → (execOp a.eval o).run P w = .ok (.value v) w := fun a w v g e hr => by simp [execOp, ho, e, hr]
  match u, hu with
  | .c (.ptr n j), ⟨.bx l, hn, h⟩ =>
    obtain ⟨h0, u1, h1, h2⟩ := loadC_ex h
    refine ⟨_, _, _, h1, does_pure fun w0 F G M' T' a w h3 h4 hR hT => ?_⟩
    obtain ⟨B, e1, e2, _⟩ := hv w0 F G M' T' a h3 hT
    obtain ⟨B', c, ety, e3, _, e4, e5⟩ := hR.bx (l := l) ((h4 n (by simp)).trans hn)
    obtain rfl : B' = B := by rw [e1] at e3; simpa using e3.symm
    refine ⟨_, run a w _ _ e2 (run_load_known hs B' j ((c.toList.drop j).take (s.getD 1)) (by simp [e5.1]; omega) (fun i v hi => ?_)), h2 _ _ _ _ _ e5⟩
    rw [cell_of_row w B' _ c ety (0, 0) e4]
    have := (sub_get _ _ _ _ hi).2
    simpa using this
  | .c (.eptr n len i j), ⟨.fl e sz l, hn, hlen, es, hes, h⟩ =>
    obtain ⟨h0, u1, h1, h2⟩ := loadV_ex h
    refine ⟨_, _, _, h1, does_pure fun w0 F G M' T' a w h3 h4 hR hT => ?_⟩
    obtain ⟨b', sz', L', e1, e0, e2, _, e3⟩ := hv w0 F G M' T' a h3 hT
    have hn' := (h4 n (by simp)).trans hn
    rw [e1] at hn'
    obtain rfl := Option.some.inj hn'
    simp only [arrB, Option.some.injEq, Prod.mk.injEq] at e0
    obtain ⟨rfl, rfl⟩ := e0
    obtain ⟨B, m, cap, e4, e5⟩ := e3 hlen
    obtain ⟨e6, e7⟩ := hR.elem e1 hes e4
    refine ⟨_, run a w _ _ e5 (run_load_known hs B (i * sz + j) ((es.drop j).take (s.getD 1)) (by simp; omega) (fun q v hq => ?_)), h2 _ _ _ _⟩
    rw [Nat.add_assoc]
    exact e7 _ _ (sub_get _ _ _ _ hq).2
  | .c (.eptr n len i j), ⟨.cs e l, hn, hlen, h⟩ =>
    obtain ⟨h0, rfl, c, hc, h1⟩ := guardK_iff.1 h
    obtain rfl : s = none := by cases s with | none => rfl | some _ => cases h0
    refine ⟨_, _, _, h1, does_pure fun w0 F G M' T' a w h3 h4 hR hT => ?_⟩
    obtain ⟨b', sz', L', e1, e0, e2, _, e3⟩ := hv w0 F G M' T' a h3 hT
    have hn' := (h4 n (by simp)).trans hn
    rw [e1] at hn'
    obtain rfl := Option.some.inj hn'
    simp only [arrB, Option.some.injEq, Prod.mk.injEq] at e0
    obtain ⟨rfl, rfl⟩ := e0
    obtain ⟨B, m, cap, e4, e5⟩ := e3 hlen
    obtain ⟨vs, f1, f2, f3, f4⟩ := hR.own n _ e1
    obtain ⟨v, g1, g2⟩ := f1.2 i c hc
    refine ⟨v, run a w _ _ e5 (run_load_known hs B (i * 1 + 0) [v] rfl (fun q u hq => ?_)), g2⟩
    cases q with
    | zero =>
      simp at hq
      subst hq
      have := f3.cells (g := B) (by rw [e4]; rfl) i v g1
      rw [Addr.add_lit] at this
      simpa using this
    | succ q => simp at hq
  | .c (.vptr es j), h =>
    obtain ⟨h0, u1, h1, h2⟩ := loadV_ex h
    refine ⟨_, _, _, h1, does_pure fun w0 F G M' T' a w h3 h4 hR hT => ?_⟩
    obtain ⟨b, ob, e1, e2, e3⟩ := hv w0 F G M' T' a h3 hT
    refine ⟨_, run a w _ _ e2 (run_load_known hs b (ob + j) ((es.drop j).take (s.getD 1)) (by simp; omega) (fun q v hq => ?_)), h2 _ _ _ _⟩
    rw [Nat.add_assoc, World.cell?_of_block (w := w0) (hR.keep b e1)]
    exact e3 _ _ (sub_get _ _ _ _ hq).2
  | .c (.pview sz l), h =>
    obtain ⟨h0, h1⟩ := guardK_iff.1 h
    obtain rfl : s = none := by cases s with | none => rfl | some _ => cases h0
    refine ⟨_, _, _, h1, does_pure fun w0 F G M' T' a w h3 h4 hR hT => ?_⟩
    obtain ⟨b, ob, v, e1, e2, e3, e4⟩ := hv w0 F G M' T' a h3 hT
    refine ⟨_, run a w _ _ e2 (run_load_known hs b ob [v] rfl (fun q u hq => ?_)), e4⟩
    cases q with
    | zero => simp at hq; subst hq; rw [Nat.add_zero, World.cell?_of_block (w := w0) (hR.keep b e1)]; exact e3
    | succ q => simp at hq

theorem binK_ex {op : BinOp} {u1 u2 : V} {k : Value → Prop} (h : binK op k u1 u2) : ∃ v, k v ∧ ∃ x y, u1 = .c (.pv x) ∧ u2 = .c (.pv y) ∧ ∀ (P : Program) (w : World) (t : TypeId) (xo yo : Operand), (eqGuard op t xo yo x y).run P w = .ok () w ∧ (binOp op t x y).run P w = .ok v w := by
  unfold binK at h
  split at h
  · rename_i x y
    have guard : ∀ (P : Program) (w : World) (t : TypeId) (xo yo : Operand), (eqGuard op t xo yo (.int .i64 x) (.int .i64 y)).run P w = .ok () w := fun P w t xo yo => by cases op <;> simp [eqGuard]
    cases op <;> simp only at h
    case add => exact ⟨_, h, _, _, rfl, rfl, fun P w t xo yo => ⟨guard P w t xo yo, by simp [binOp, Op.intArith, IntKind.wrap_i64, wrap64]⟩⟩
    case sub => exact ⟨_, h, _, _, rfl, rfl, fun P w t xo yo => ⟨guard P w t xo yo, by simp [binOp, Op.intArith, IntKind.wrap_i64, wrap64]⟩⟩
    case mul => exact ⟨_, h, _, _, rfl, rfl, fun P w t xo yo => ⟨guard P w t xo yo, by simp [binOp, Op.intArith, IntKind.wrap_i64, wrap64]⟩⟩
    case quo => exact ⟨_, h.2, _, _, rfl, rfl, fun P w t xo yo => ⟨guard P w t xo yo, by simp [binOp, Op.intDiv, h.1, IntKind.wrap_i64, wrap64]⟩⟩
    case rem => exact ⟨_, h.2, _, _, rfl, rfl, fun P w t xo yo => ⟨guard P w t xo yo, by simp [binOp, Op.intDiv, h.1]⟩⟩
    case eql => exact ⟨_, h, _, _, rfl, rfl, fun P w t xo yo => ⟨guard P w t xo yo, by simp [binOp, Op.intCmp]⟩⟩
    case neq => exact ⟨_, h, _, _, rfl, rfl, fun P w t xo yo => ⟨guard P w t xo yo, by simp [binOp, Op.intCmp]⟩⟩
    case lss => exact ⟨_, h, _, _, rfl, rfl, fun P w t xo yo => ⟨guard P w t xo yo, by simp [binOp, Op.intCmp]⟩⟩
    case leq => exact ⟨_, h, _, _, rfl, rfl, fun P w t xo yo => ⟨guard P w t xo yo, by simp [binOp, Op.intCmp]⟩⟩
    case gtr => exact ⟨_, h, _, _, rfl, rfl, fun P w t xo yo => ⟨guard P w t xo yo, by simp [binOp, Op.intCmp]⟩⟩
    case geq => exact ⟨_, h, _, _, rfl, rfl, fun P w t xo yo => ⟨guard P w t xo yo, by simp [binOp, Op.intCmp]⟩⟩
    all_goals exact h.elim
  · exact h.elim

theorem sound_bin {op : BinOp} {t u : TypeId} {x y : Operand} {x' y' : Opd} (ho : o.op = .binOp op t x y u) (hx : copd x = some x') (hy : copd y = some y') {k : V → Eff → List Nm → Prop} : Sound P M T d o (.bin op x' y') k := fun h => by
  obtain ⟨u1, h1, hv1⟩ := evK_ex hx h
  obtain ⟨u2, h2, hv2⟩ := evK_ex hy h1
  obtain ⟨v, h3, x1, y1, rfl, rfl, h4⟩ := binK_ex h2
  refine ⟨_, _, _, h3, does_pure fun w0 F G M' T' a w g1 g2 hR hT => ⟨v, ?_, rfl⟩⟩
  have e1 : a.eval x = x1 := hv1 w0 F G M' T' a (fun q hq => g1 q (by simp [tmpsA, hq])) hT
  have e2 : a.eval y = y1 := hv2 w0 F G M' T' a (fun q hq => g1 q (by simp [tmpsA, hq])) hT
  simp [execOp, ho, e1, e2, (h4 P w t x y).1, (h4 P w t x y).2]

theorem sound_binB {op : BinOp} {ng : Bool} {t u : TypeId} {x y : Operand} {x' y' : Opd} (ho : o.op = .binOp op t x y u) (hop : op = if ng then .neq else .eql) (ht : P.underlying t = some .bool) (hx : copd x = some x') (hy : copd y = some y') {k : V → Eff → List Nm → Prop} : Sound P M T d o (.binB ng x' y') k := fun h => by
  obtain ⟨u1, h1, hv1⟩ := evK_ex hx h
  obtain ⟨u2, h2, hv2⟩ := evK_ex hy h1
  match u1, u2, h2 with
  | .c (.pv (.bool b1)), .c (.pv (.bool b2)), h2 =>
    have eq := run_equalIn_bool' (P := P)
    cases ng with
    | true =>
      refine ⟨_, _, _, h2, does_pure fun w0 F G M' T' a w g1 g2 hR hT => ⟨_, ?_, rfl⟩⟩
      have e1 : a.eval x = .bool b1 := hv1 w0 F G M' T' a (fun q hq => g1 q (by simp [tmpsA, hq])) hT
      have e2 : a.eval y = .bool b2 := hv2 w0 F G M' T' a (fun q hq => g1 q (by simp [tmpsA, hq])) hT
      have e3 := eq w 9999 t b1 b2 ht
      subst hop
      simp [execOp, ho, e1, e2, eqGuard, binOp, Op.equal, Op.maxDepth, e3, bne]
    | false =>
      refine ⟨_, _, _, h2, does_pure fun w0 F G M' T' a w g1 g2 hR hT => ⟨_, ?_, rfl⟩⟩
      have e1 : a.eval x = .bool b1 := hv1 w0 F G M' T' a (fun q hq => g1 q (by simp [tmpsA, hq])) hT
      have e2 : a.eval y = .bool b2 := hv2 w0 F G M' T' a (fun q hq => g1 q (by simp [tmpsA, hq])) hT
      have e3 := eq w 9999 t b1 b2 ht
      subst hop
      simp [execOp, ho, e1, e2, eqGuard, binOp, Op.equal, Op.maxDepth, e3]

theorem sound_neg {t : TypeId} {x : Operand} {x' : Opd} (ho : o.op = .unOp .neg t x) (hx : copd x = some x') {k : V → Eff → List Nm → Prop} : Sound P M T d o (.neg x') k := fun h => by
  obtain ⟨u1, h1, hv1⟩ := evK_ex hx h
  match u1, h1 with
  | .c (.pv (.int .i64 n)), h1 =>
    refine ⟨_, _, _, h1, does_pure fun w0 F G M' T' a w g1 g2 hR hT => ⟨_, ?_, rfl⟩⟩
    have e1 : a.eval x = .int .i64 n := hv1 w0 F G M' T' a g1 hT
    simp [execOp, ho, e1, Op.unary, Op.intArith, IntKind.wrap_i64, wrap64]

theorem sound_not {t : TypeId} {x : Operand} {x' : Opd} (ho : o.op = .unOp .not t x) (hx : copd x = some x') {k : V → Eff → List Nm → Prop} : Sound P M T d o (.not x') k := fun h => by
  obtain ⟨u1, h1, hv1⟩ := evK_ex hx h
  match u1, h1 with
  | .c (.pv (.bool n)), h1 =>
    refine ⟨_, _, _, h1, does_pure fun w0 F G M' T' a w g1 g2 hR hT => ⟨_, ?_, rfl⟩⟩
    have e1 : a.eval x = .bool n := hv1 w0 F G M' T' a g1 hT
    simp [execOp, ho, e1, Op.unary]

theorem sound_faddr {s : TypeId} {x : Operand} {i : Nat} {x' : Opd} {fs : Array Field} {f : Field} {j : TypeInfo} (ho : o.op = .fieldAddr s x i) (hu : P.underlying s = some (.struct fs)) (hf : fs[i]? = some f) (hj : P.info? f.type = some j) (hz : j.size ≠ 0) (hx : copd x = some x') {k : V → Eff → List Nm → Prop} :
    Sound P M T d o (.faddr f.offset x') k := fun h => by
  obtain ⟨u1, h1, hv1⟩ := evK_ex hx h
  have run : ∀ (a : Act) (w : World) (B q : Nat), a.eval x = .pointer (some ⟨B, q, none⟩) → (execOp a.eval o).run P w = .ok (.value (.pointer (some ⟨B, q + f.offset, none⟩))) w := fun a w B q e => by
    simp [execOp, ho, e, Instr.fieldAt, run_underlying hu, hf, Instr.sureAddr, fieldPlace, sizeOf, typeInfo, hj, hz, Addr.add_lit]
  match u1, h1 with
  | .c (.ptr n q), h1 =>
    refine ⟨_, _, _, h1, does_pure fun w0 F G M' T' a w g1 g2 hR hT => ?_⟩
    obtain ⟨B, e1, e2, e3⟩ := hv1 w0 F G M' T' a g1 hT
    exact ⟨_, run a w B q e2, B, e1, rfl, e3⟩
  | .c (.eptr n len i q), h1 =>
    refine ⟨_, _, _, h1, does_pure fun w0 F G M' T' a w g1 g2 hR hT => ?_⟩
    obtain ⟨e, sz, l, e1, e0, e2, ⟨b, e3⟩, e4⟩ := hv1 w0 F G M' T' a g1 hT
    by_cases hl : len = l
    · obtain ⟨B, m, cap, e5, e6⟩ := e4 hl
      exact ⟨_, run a w B _ e6, e, sz, l, e1, e0, e2, ⟨_, rfl⟩, fun _ => ⟨B, m, cap, e5, by rw [Nat.add_assoc]⟩⟩
    · obtain ⟨B, ob, sp⟩ := b
      refine ⟨.pointer (some ((⟨B, ob, sp⟩ : Addr).add f.offset)), ?_, e, sz, l, e1, e0, e2, ⟨_, rfl⟩, fun h => absurd h hl⟩
      simp [execOp, ho, e3, Instr.fieldAt, run_underlying hu, hf, Instr.sureAddr, fieldPlace, sizeOf, typeInfo, hj, hz]
  | .c (.vptr es q), h1 =>
    refine ⟨_, _, _, h1, does_pure fun w0 F G M' T' a w g1 g2 hR hT => ?_⟩
    obtain ⟨B, ob, e1, e2, e3⟩ := hv1 w0 F G M' T' a g1 hT
    exact ⟨_, run a w B _ e2, B, ob, e1, by rw [Nat.add_assoc], e3⟩

theorem sound_ext {x : Operand} {i : Nat} {x' : Opd} (ho : o.op = .extract x i) (hx : copd x = some x') {k : V → Eff → List Nm → Prop} : Sound P M T d o (.ext x' i) k := fun h => by
  obtain ⟨u1, h1, hv1⟩ := evK_ex hx h
  match u1, h1 with
  | .tup l, h1 =>
    obtain ⟨p, hp, h2⟩ := getK_iff.1 h1
    have fin : ∀ res, k res .non [] → (∀ w0 F G M v, Conc1 w0 F G M p v → ConcV w0 F G M res v) → ∃ res eff rd, k res eff rd ∧ DoesA P M T (tmpsA (.ext x' i)) o res eff rd := fun res hk hc => by
      refine ⟨_, _, _, hk, does_pure fun w0 F G M' T' a w g1 g2 hR hT => ?_⟩
      obtain ⟨vs, e1, e2, e3⟩ := hv1 w0 F G M' T' a g1 hT
      obtain ⟨u, e4, e5⟩ := e3 i p hp
      exact ⟨u, by simp [execOp, ho, e1, Instr.extract, e4], hc _ _ _ _ _ e5⟩
    obtain ⟨b, l'⟩ := p
    cases b with
    | false =>
      match l', h2, fin with
      | [y], h2, fin =>
        refine fin _ h2 (fun w0 F G M v hv => ?_)
        obtain ⟨x, e, hx⟩ := hv
        simp at e
        subst e
        exact hx
    | true => exact fin (.agg l') (by simpa using h2) (fun w0 F G M v hv => hv)

theorem sound_len {t : TypeId} {e : TypeId} {x : Operand} {x' : Opd} (ho : o.op = .call { callee := .builtin .len, args := #[x], argTypes := #[t] }) (ht : P.underlying t = some (.slice e)) (hx : copd x = some x') {k : V → Eff → List Nm → Prop} : Sound P M T d o (.len x') k := fun h => by
  obtain ⟨u1, h1, hv1⟩ := evK_ex hx h
  match u1, h1 with
  | .c (.slc n len), h1 =>
    refine ⟨_, _, _, h1, does_pure fun w0 F G M' T' a w g1 g2 hR hT => ⟨_, ?_, rfl⟩⟩
    obtain ⟨_, _, _, _, _, _, ⟨b, cap, e1⟩, _⟩ := hv1 w0 F G M' T' a g1 hT
    simp [execOp, ho, resolve, invoke, builtin, e1, Builtin.len_, run_underlying ht, goInt]
  | .c (.view sz l), h1 =>
    refine ⟨_, _, _, h1, does_pure fun w0 F G M' T' a w g1 g2 hR hT => ⟨_, ?_, rfl⟩⟩
    obtain ⟨b, cap, e1, _⟩ := hv1 w0 F G M' T' a g1 hT
    simp [execOp, ho, resolve, invoke, builtin, e1, Builtin.len_, run_underlying ht, goInt]
  | .c (.pvw v sz l), h1 =>
    refine ⟨_, _, _, h1, does_pure fun w0 F G M' T' a w g1 g2 hR hT => ⟨_, ?_, rfl⟩⟩
    obtain ⟨e0, b, cap, e1, _⟩ := hv1 w0 F G M' T' a g1 hT
    rw [e1] at e0
    simp [execOp, ho, resolve, invoke, builtin, e0, Builtin.len_, run_underlying ht, goInt]
  | .c (.sub n len lo cnt), h1 =>
    refine ⟨_, _, _, h1, does_pure fun w0 F G M' T' a w g1 g2 hR hT => ⟨_, ?_, rfl⟩⟩
    obtain ⟨_, _, _, _, _, ⟨b, cap, e1⟩, _⟩ := hv1 w0 F G M' T' a g1 hT
    simp [execOp, ho, resolve, invoke, builtin, e1, Builtin.len_, run_underlying ht, goInt]

theorem binUK_ex {kd : IntKind} {op : BinOp} {u1 u2 : V} {k : Value → Prop} (h : binUK kd op k u1 u2) : ∃ v, k v ∧ ∃ x y, u1 = .c (.pv x) ∧ u2 = .c (.pv y) ∧ ∀ (P : Program) (w : World) (t : TypeId) (xo yo : Operand), (eqGuard op t xo yo x y).run P w = .ok () w ∧ (binOp op t x y).run P w = .ok v w := by
  unfold binUK at h
  split at h
  · rename_i k1 x k2 y
    obtain ⟨⟨rfl, rfl⟩, h⟩ := h
    have guard : ∀ (P : Program) (w : World) (t : TypeId) (xo yo : Operand), (eqGuard op t xo yo (.int k2 x) (.int k2 y)).run P w = .ok () w := fun P w t xo yo => by cases op <;> simp [eqGuard]
    cases op <;> simp only at h
    case add => exact ⟨_, h, _, _, rfl, rfl, fun P w t xo yo => ⟨guard P w t xo yo, by simp [binOp, Op.intArith]⟩⟩
    case sub => exact ⟨_, h, _, _, rfl, rfl, fun P w t xo yo => ⟨guard P w t xo yo, by simp [binOp, Op.intArith]⟩⟩
    case mul => exact ⟨_, h, _, _, rfl, rfl, fun P w t xo yo => ⟨guard P w t xo yo, by simp [binOp, Op.intArith]⟩⟩
    case and => exact ⟨_, h, _, _, rfl, rfl, fun P w t xo yo => ⟨guard P w t xo yo, by simp [binOp, Op.intBits]⟩⟩
    case eql => exact ⟨_, h, _, _, rfl, rfl, fun P w t xo yo => ⟨guard P w t xo yo, by simp [binOp, Op.intCmp]⟩⟩
    case neq => exact ⟨_, h, _, _, rfl, rfl, fun P w t xo yo => ⟨guard P w t xo yo, by simp [binOp, Op.intCmp]⟩⟩
    case lss => exact ⟨_, h, _, _, rfl, rfl, fun P w t xo yo => ⟨guard P w t xo yo, by simp [binOp, Op.intCmp]⟩⟩
    case leq => exact ⟨_, h, _, _, rfl, rfl, fun P w t xo yo => ⟨guard P w t xo yo, by simp [binOp, Op.intCmp]⟩⟩
    case gtr => exact ⟨_, h, _, _, rfl, rfl, fun P w t xo yo => ⟨guard P w t xo yo, by simp [binOp, Op.intCmp]⟩⟩
    case geq => exact ⟨_, h, _, _, rfl, rfl, fun P w t xo yo => ⟨guard P w t xo yo, by simp [binOp, Op.intCmp]⟩⟩
    all_goals exact h.elim
  · exact h.elim

theorem sound_binU {kd : IntKind} {op : BinOp} {t u : TypeId} {x y : Operand} {x' y' : Opd} (ho : o.op = .binOp op t x y u) (hx : copd x = some x') (hy : copd y = some y') {k : V → Eff → List Nm → Prop} : Sound P M T d o (.binU kd op x' y') k := fun h => by
  obtain ⟨u1, h1, hv1⟩ := evK_ex hx h
  obtain ⟨u2, h2, hv2⟩ := evK_ex hy h1
  obtain ⟨v, h3, x1, y1, rfl, rfl, h4⟩ := binUK_ex h2
  refine ⟨_, _, _, h3, does_pure fun w0 F G M' T' a w g1 g2 hR hT => ⟨v, ?_, rfl⟩⟩
  have e1 : a.eval x = x1 := hv1 w0 F G M' T' a (fun q hq => g1 q (by simp [tmpsA, hq])) hT
  have e2 : a.eval y = y1 := hv2 w0 F G M' T' a (fun q hq => g1 q (by simp [tmpsA, hq])) hT
  simp [execOp, ho, e1, e2, (h4 P w t x y).1, (h4 P w t x y).2]

theorem sound_shr {kd : IntKind} {t u : TypeId} {x y : Operand} {x' y' : Opd} (ho : o.op = .binOp .shr t x y u) (hx : copd x = some x') (hy : copd y = some y') {k : V → Eff → List Nm → Prop} : Sound P M T d o (.shr kd x' y') k := fun h => by
  obtain ⟨u1, h1, hv1⟩ := evK_ex hx h
  obtain ⟨u2, h2, hv2⟩ := evK_ex hy h1
  match u1, u2, h2 with
  | .c (.pv (.int k1 m)), .c (.pv (.int k2 n)), ⟨hk, hn, h2⟩ =>
    subst hk
    refine ⟨_, _, _, h2, does_pure fun w0 F G M' T' a w g1 g2 hR hT => ⟨_, ?_, rfl⟩⟩
    have e1 : a.eval x = .int k1 m := hv1 w0 F G M' T' a (fun q hq => g1 q (by simp [tmpsA, hq])) hT
    have e2 : a.eval y = .int k2 n := hv2 w0 F G M' T' a (fun q hq => g1 q (by simp [tmpsA, hq])) hT
    have e3 : ¬ n < 0 := by omega
    simp [execOp, ho, e1, e2, eqGuard, binOp, Op.shift, e3]

theorem sound_nchk {x : Operand} {x' : Opd} (ho : o.op = .nilCheck x) (hx : copd x = some x') {k : V → Eff → List Nm → Prop} : Sound P M T d o (.nchk x') k := fun h => by
  obtain ⟨u1, h1, hv1⟩ := evK_ex hx h
  have fin : ∀ (u : V), k u .non [] → (∀ w0 F G M' T' a, (∀ t, t ∈ opdT x' → T'[t]? = T[t]?) → TRel w0 F G M' T' a → ConcV w0 F G M' u (a.eval x) ∧ ∃ b, a.eval x = .pointer (some b)) → ∃ res eff rd, k res eff rd ∧ DoesA P M T (tmpsA (.nchk x')) o res eff rd := fun u hk hc =>
    ⟨_, _, _, hk, does_pure fun w0 F G M' T' a w g1 g2 hR hT => by
      obtain ⟨q1, b, q2⟩ := hc w0 F G M' T' a g1 hT
      exact ⟨a.eval x, by simp [execOp, ho, q2], q1⟩⟩
  match u1, h1, hv1 with
  | .c (.ptr n j), h1, hv1 => exact fin _ h1 fun w0 F G M' T' a g1 hT => ⟨hv1 w0 F G M' T' a g1 hT, by obtain ⟨B, _, e, _⟩ := hv1 w0 F G M' T' a g1 hT; exact ⟨_, e⟩⟩
  | .c (.eptr n len i j), h1, hv1 => exact fin _ h1 fun w0 F G M' T' a g1 hT => ⟨hv1 w0 F G M' T' a g1 hT, by obtain ⟨_, _, _, _, _, _, e, _⟩ := hv1 w0 F G M' T' a g1 hT; exact e⟩
  | .c (.vptr es j), h1, hv1 => exact fin _ h1 fun w0 F G M' T' a g1 hT => ⟨hv1 w0 F G M' T' a g1 hT, by obtain ⟨B, ob, _, e, _⟩ := hv1 w0 F G M' T' a g1 hT; exact ⟨_, e⟩⟩

theorem sound_conv {s t : TypeId} {kd kk : IntKind} {x : Operand} {x' : Opd} (ho : o.op = .convert s t x) (hs : P.underlying s = some (.int kk)) (ht : P.underlying t = some (.int kd)) (hx : copd x = some x') {k : V → Eff → List Nm → Prop} : Sound P M T d o (.conv kd x') k := fun h => by
  obtain ⟨u1, h1, hv1⟩ := evK_ex hx h
  match u1, h1 with
  | .c (.pv (.int k1 n)), h1 =>
    refine ⟨_, _, _, h1, does_pure fun w0 F G M' T' a w g1 g2 hR hT => ⟨_, ?_, rfl⟩⟩
    have e1 : a.eval x = .int k1 n := hv1 w0 F G M' T' a g1 hT
    simp [execOp, ho, e1, convert, run_underlying hs, run_underlying ht, Conv.intToInt]

theorem sound_s2a {t e : TypeId} {n : Nat} {x : Operand} {x' : Opd} (ho : o.op = .sliceToArrayPointer t x) (ht : P.underlying t = some (.array n e)) (hx : copd x = some x') {k : V → Eff → List Nm → Prop} : Sound P M T d o (.s2a n x') k := fun h => by
  obtain ⟨u1, h1, hv1⟩ := evK_ex hx h
  match u1, h1 with
  | .c (.view sz l), ⟨hn, hl, hsz, h1⟩ =>
    refine ⟨_, _, _, h1, does_pure fun w0 F G M' T' a w g1 g2 hR hT => ?_⟩
    obtain ⟨b, cap, e1, e2, e3, e4, e5⟩ := hv1 w0 F G M' T' a g1 hT
    obtain ⟨B, ob, rfl, f1, f2⟩ := e5 (fun h => by subst h; simp at hl)
    have hlt : ¬ l.length < n := by omega
    refine ⟨.pointer (some ⟨B, ob, none⟩), by simp [execOp, ho, e1, Instr.arrayAt, run_underlying ht, hlt], B, ob, f1, rfl, fun j v hv => ?_⟩
    have hq : j / sz < l.length := by
      have := (List.getElem?_eq_some_iff.1 hv).1
      have fl : l.flatten.length = l.length * sz := by
        rw [List.length_flatten]
        clear hv1 h1 hv f2 e5 e4 e2 e1 hn hl hlt this
        induction l with
        | nil => simp
        | cons r l ih =>
          simp only [List.map_cons, List.sum_cons, List.length_cons]
          rw [ih fun x hx => e3 x (by simp [hx]), e3 r (by simp), Nat.succ_mul]
          omega
      rw [fl] at this
      exact Nat.div_lt_of_lt_mul (by rw [Nat.mul_comm]; exact this)
    have hr := List.getElem?_eq_getElem hq
    have hm := flat_get e3 hr (Nat.mod_lt j hsz)
    have hj : j / sz * sz + j % sz = j := by rw [Nat.mul_comm]; exact Nat.div_add_mod j sz
    rw [hj, hv] at hm
    have := f2 _ _ _ _ hr hm.symm
    rwa [show ob + j / sz * sz + j % sz = ob + j by omega] at this

theorem str_beq (a b : ByteArray) : (a.toList == b.toList) = decide (a = b) := by
  rw [Go.ByteArray.toList_eq, Go.ByteArray.toList_eq, Bool.eq_iff_iff, beq_iff_eq, decide_eq_true_eq]
  constructor
  · intro h
    exact ByteArray.ext (Array.toList_inj.1 h)
  · rintro rfl; rfl
theorem strK_ex {op : BinOp} {u1 u2 : V} {k : Value → Prop} (h : strK op k u1 u2) : ∃ v, k v ∧ ∃ x y, u1 = .c (.pv x) ∧ u2 = .c (.pv y) ∧ ∀ (P : Program) (w : World) (t : TypeId) (xo yo : Operand), (eqGuard op t xo yo x y).run P w = .ok () w ∧ (binOp op t x y).run P w = .ok v w := by
  unfold strK at h
  split at h
  · rename_i x y
    have guard : ∀ (P : Program) (w : World) (t : TypeId) (xo yo : Operand), (eqGuard op t xo yo (.string x) (.string y)).run P w = .ok () w := fun P w t xo yo => by cases op <;> simp [eqGuard]
    cases op <;> simp only at h
    case add => exact ⟨_, h.2, _, _, rfl, rfl, fun P w t xo yo => ⟨guard P w t xo yo, by have := h.1; have e : ¬ ((x.size + y.size : Nat) : Int) > IntKind.i64.max := (by simp [IntKind.max, IntKind.signed, IntKind.bits]; omega); simp only [binOp, Op.stringOp, if_neg e]; rfl⟩⟩
    case eql => exact ⟨_, h, _, _, rfl, rfl, fun P w t xo yo => ⟨guard P w t xo yo, by simp [binOp, Op.stringOp, str_beq]⟩⟩
    case neq => exact ⟨_, h, _, _, rfl, rfl, fun P w t xo yo => ⟨guard P w t xo yo, by simp [binOp, Op.stringOp, str_beq]⟩⟩
    all_goals exact h.elim
  · exact h.elim
theorem sound_strop {op : BinOp} {t u : TypeId} {x y : Operand} {x' y' : Opd} (ho : o.op = .binOp op t x y u) (hx : copd x = some x') (hy : copd y = some y') {k : V → Eff → List Nm → Prop} : Sound P M T d o (.strop op x' y') k := fun h => by
  obtain ⟨u1, h1, hv1⟩ := evK_ex hx h
  obtain ⟨u2, h2, hv2⟩ := evK_ex hy h1
  obtain ⟨v, h3, x1, y1, rfl, rfl, h4⟩ := strK_ex h2
  refine ⟨_, _, _, h3, does_pure fun w0 F G M' T' a w g1 g2 hR hT => ⟨v, ?_, rfl⟩⟩
  have e1 : a.eval x = x1 := hv1 w0 F G M' T' a (fun q hq => g1 q (by simp [tmpsA, hq])) hT
  have e2 : a.eval y = y1 := hv2 w0 F G M' T' a (fun q hq => g1 q (by simp [tmpsA, hq])) hT
  simp [execOp, ho, e1, e2, (h4 P w t x y).1, (h4 P w t x y).2]
theorem sound_slen {t : TypeId} {x : Operand} {x' : Opd} (ho : o.op = .call { callee := .builtin .len, args := #[x], argTypes := #[t] }) (ht : P.underlying t = some .string) (hx : copd x = some x') {k : V → Eff → List Nm → Prop} : Sound P M T d o (.slen x') k := fun h => by
  obtain ⟨u1, h1, hv1⟩ := evK_ex hx h
  match u1, h1 with
  | .c (.pv (.string s)), h1 =>
    refine ⟨_, _, _, h1, does_pure fun w0 F G M' T' a w g1 g2 hR hT => ⟨_, ?_, rfl⟩⟩
    have e1 : a.eval x = .string s := hv1 w0 F G M' T' a g1 hT
    simp [execOp, ho, resolve, invoke, builtin, e1, Builtin.len_, run_underlying ht, goInt]
theorem sound_sidx {t : TypeId} {x i : Operand} {x' i' : Opd} (ho : o.op = .index t x i) (hu : P.underlying t = some .string) (hx : copd x = some x') (hi : copd i = some i') {k : V → Eff → List Nm → Prop} : Sound P M T d o (.sidx x' i') k := fun h => by
  obtain ⟨u1, h1, hv1⟩ := evK_ex hx h
  obtain ⟨u2, h2, hv2⟩ := evK_ex hi h1
  match u1, u2, h2 with
  | .c (.pv (.string s)), .c (.pv (.int .i64 j)), ⟨b, ⟨hj, hb⟩, h2⟩ =>
    refine ⟨_, _, _, h2, does_pure fun w0 F G M' T' a w g1 g2 hR hT => ⟨_, ?_, rfl⟩⟩
    have e1 : a.eval x = .string s := hv1 w0 F G M' T' a (fun q hq => g1 q (by simp [tmpsA, hq])) hT
    have e2 : a.eval i = .int .i64 j := hv2 w0 F G M' T' a (fun q hq => g1 q (by simp [tmpsA, hq])) hT
    have hlt : j.toNat < s.size := by
      refine Decidable.byContradiction fun hn => ?_
      rw [Go.ByteArray.getElem?_ge' s _ hn] at hb
      cases hb
    have hi2 : 0 ≤ j ∧ j < s.size := ⟨hj, by omega⟩
    have hb2 : s[j.toNat]'hlt = b := by
      rw [Go.ByteArray.getElem?_lt' s _ hlt] at hb
      exact Option.some.inj hb
    have := run_index_string (P := P) w t s .i64 j hu
    rw [dif_pos hi2, hb2] at this
    simp [execOp, ho, e1, e2, this]
theorem sound_ssub {t : TypeId} {x lo hi : Operand} {x' lo' hi' : Opd} (ho : o.op = .slice t x (some lo) (some hi) none) (hu : P.underlying t = some .string) (hx : copd x = some x') (hlo : copd lo = some lo') (hhi : copd hi = some hi') {k : V → Eff → List Nm → Prop} : Sound P M T d o (.ssub x' lo' hi') k := fun h => by
  obtain ⟨u1, h1, hv1⟩ := evK_ex hx h
  match u1, h1 with
  | .c (.pv (.string s)), h1 =>
    obtain ⟨u2, h2, hv2⟩ := evK_ex hlo h1
    match u2, h2 with
    | .c (.pv (.int .i64 l)), h2 =>
      obtain ⟨u3, h3, hv3⟩ := evK_ex hhi h2
      match u3, h3 with
      | .c (.pv (.int .i64 m)), ⟨⟨b1, b2, b3⟩, h3⟩ =>
        refine ⟨_, _, _, h3, does_pure fun w0 F G M' T' a w g1 g2 hR hT => ⟨_, ?_, rfl⟩⟩
        have e1 : a.eval x = .string s := hv1 w0 F G M' T' a (fun q hq => g1 q (by simp [tmpsA, hq])) hT
        have e2 : a.eval lo = .int .i64 l := hv2 w0 F G M' T' a (fun q hq => g1 q (by simp [tmpsA, hq])) hT
        have e3 : a.eval hi = .int .i64 m := hv3 w0 F G M' T' a (fun q hq => g1 q (by simp [tmpsA, hq])) hT
        have c1 : 0 ≤ m ∧ m ≤ s.size := ⟨by omega, b3⟩
        have c2 : 0 ≤ l ∧ l ≤ m.toNat := ⟨b1, by omega⟩
        have q1 : (Instr.slice t (.string s) (some (.int .i64 l)) (some (.int .i64 m)) none).run P w = .ok (.string (s.extract l.toNat m.toNat)) w := by
          exact run_slice_string (P := P) w t s .i64 .i64 l m hu b1 b2 b3
        simp [execOp, ho, e1, e2, e3, run_sliceAt_string (P := P) w t _ _ _ _ hu, q1]

theorem sound_max {ts : Array TypeId} {x y : Operand} {x' y' : Opd} (ho : o.op = .call { callee := .builtin .max, args := #[x, y], argTypes := ts }) (hx : copd x = some x') (hy : copd y = some y') {k : V → Eff → List Nm → Prop} : Sound P M T d o (.max2 x' y') k := fun h => by
  obtain ⟨u1, h1, hv1⟩ := evK_ex hx h
  obtain ⟨u2, h2, hv2⟩ := evK_ex hy h1
  match u1, u2, h2 with
  | .c (.pv (.int .i64 m)), .c (.pv (.int .i64 n)), h2 =>
    refine ⟨_, _, _, h2, does_pure fun w0 F G M' T' a w g1 g2 hR hT => ⟨_, ?_, rfl⟩⟩
    have e1 : a.eval x = .int .i64 m := hv1 w0 F G M' T' a (fun q hq => g1 q (by simp [tmpsA, hq])) hT
    have e2 : a.eval y = .int .i64 n := hv2 w0 F G M' T' a (fun q hq => g1 q (by simp [tmpsA, hq])) hT
    have e3 : (if n > m then n else m) = max m n := by omega
    simp [execOp, ho, resolve, invoke, builtin, e1, e2, Builtin.max_, Builtin.max2, ← e3]
end
end Go.Proofs.Ytfbadfnhnaaeeaa
