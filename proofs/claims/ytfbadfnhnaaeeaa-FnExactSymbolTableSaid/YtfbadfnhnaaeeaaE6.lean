/- The abstract machine: parts of structs, elements, slices of slices, structs compared. -/
import Derived.Test.YtfbadfnhnaaeeaaE5
namespace Go.Proofs.Ytfbadfnhnaaeeaa
set_option linter.unusedSimpArgs false
set_option linter.unusedVariables false
open Go.RowKit

section
variable {P : Program} {w0 : World} {F : Nat → Prop} {G : Gh} {M : Mem} {w : World} {T : List V} {a : Act} {o : Oper} {d : Nat}

theorem run_part_known {t : TypeId} {s : Option Nat} (hs : csize P t = some s) (vs : Array Value) (off : Nat) (h : off + s.getD 1 ≤ vs.size) :
    (part t vs off).run P w = .ok (vload s ((vs.toList.drop off).take (s.getD 1))) w := by
  unfold csize at hs
  cases hu : P.underlying t with
  | none => rw [hu] at hs; simp at hs
  | some td =>
    cases hi : P.info? t with
    | none => rw [hu, hi] at hs; cases td <;> simp at hs
    | some i =>
      rw [hu, hi] at hs
      have one : (if i.size = 1 then some none else none : Option (Option Nat)) = some s → s = none := fun h => by
        split at h
        · cases h; rfl
        · cases h
      have agg : ∀ n, vs.extract off (off + n) = ((vs.toList.drop off).take n).toArray := fun n => by
        apply Array.ext'
        simp [Array.toList_extract, List.extract]
      cases td with
      | struct fs =>
        simp only [Option.some.injEq] at hs
        subst hs
        simp [part, isAgg, run_underlying hu, sizeOf, typeInfo, hi, agg, vload]
      | array n e =>
        simp only [Option.some.injEq] at hs
        subst hs
        simp [part, isAgg, run_underlying hu, sizeOf, typeInfo, hi, agg, vload]
      | _ =>
        have := one hs
        subst this
        have hlt : off < vs.size := by simp at h; omega
        have e : vs[off]? = some vs[off] := Array.getElem?_eq_getElem hlt
        have e2 : (vs.toList.drop off).take 1 = [vs[off]] := by
          rw [List.drop_eq_getElem_cons (by simpa using hlt)]
          simp
        simp [part, isAgg, run_underlying hu, e, vload, e2]

theorem sound_fld {t : TypeId} {x : Operand} {i : Nat} {x' : Opd} {fs : Array Field} {f : Field} {s : Option Nat} (ho : o.op = .field t x i) (hu : P.underlying t = some (.struct fs)) (hf : fs[i]? = some f) (hs : csize P f.type = some s) (hx : copd x = some x') {k : V → Eff → List Nm → Prop} :
    Sound P M T d o (.fld f.offset s x') k := fun h => by
  obtain ⟨u1, h1, hv1⟩ := evK_ex hx h
  match u1, h1 with
  | .agg l, h1 =>
    obtain ⟨_, h2⟩ := guardK_iff.1 h1
    obtain ⟨h3, u, h4, h5⟩ := loadC_ex h2
    refine ⟨_, _, _, h4, does_pure fun w0 F G M' T' a w g1 g2 hR hT => ?_⟩
    obtain ⟨vs, e1, e2⟩ := hv1 w0 F G M' T' a g1 hT
    have hp := run_part_known (w := w) hs vs f.offset (by have := e2.1; simp at this; omega)
    exact ⟨_, by simp [execOp, ho, e1, Instr.field, run_underlying hu, hf, asAgg, hp], h5 _ _ _ _ _ e2⟩

theorem sound_idxA {t e : TypeId} {x i : Operand} {x' i' : Opd} {n : Nat} {s : Option Nat} {j : TypeInfo} (ho : o.op = .index t x i) (hu : P.underlying t = some (.array n e)) (hj : P.info? e = some j) (hs : csize P e = some s) (hx : copd x = some x') (hi : copd i = some i') {k : V → Eff → List Nm → Prop} :
    Sound P M T d o (.idxA n j.size s x' i') k := fun h => by
  obtain ⟨u1, h1, hv1⟩ := evK_ex hx h
  obtain ⟨u2, h2, hv2⟩ := evK_ex hi h1
  match u2, h2 with
  | .c (.pv (.int .i64 iv)), h2 =>
    match u1, h2 with
    | .agg l, ⟨q, hq, hqn, h2⟩ =>
      obtain ⟨_, h3⟩ := guardK_iff.1 h2
      obtain ⟨h4, u, h5, h6⟩ := loadC_ex h3
      refine ⟨_, _, _, h5, does_pure fun w0 F G M' T' a w g1 g2 hR hT => ?_⟩
      obtain ⟨vs, e1, e2⟩ := hv1 w0 F G M' T' a (fun q hq => g1 q (by simp [tmpsA, hq])) hT
      have e3 : a.eval i = .int .i64 iv := hv2 w0 F G M' T' a (fun q hq => g1 q (by simp [tmpsA, hq])) hT
      subst hq
      have hp := run_part_known (w := w) hs vs (q * j.size) (by have := e2.1; simp at this; omega)
      exact ⟨_, by simp [execOp, ho, e1, e3, Instr.index, asIntOf, run_underlying hu, sizeOf, typeInfo, hj, hqn, hp], h6 _ _ _ _ _ e2⟩

theorem sound_iaddrA {t e : TypeId} {x i : Operand} {x' i' : Opd} {n : Nat} {j : TypeInfo} (ho : o.op = .indexAddr t x i) (hu : P.underlying t = some (.array n e)) (hj : P.info? e = some j) (hx : copd x = some x') (hi : copd i = some i') {k : V → Eff → List Nm → Prop} :
    Sound P M T d o (.iaddrA n j.size x' i') k := fun h => by
  obtain ⟨u1, h1, hv1⟩ := evK_ex hx h
  obtain ⟨u2, h2, hv2⟩ := evK_ex hi h1
  match u2, h2 with
  | .c (.pv (.int .i64 iv)), h2 =>
    match u1, h2 with
    | .c (.ptr m p), ⟨q, hq, hqn, h2⟩ =>
      refine ⟨_, _, _, h2, does_pure fun w0 F G M' T' a w g1 g2 hR hT => ?_⟩
      obtain ⟨B, e1, e2, e4⟩ := hv1 w0 F G M' T' a (fun q hq => g1 q (by simp [tmpsA, hq])) hT
      have e3 : a.eval i = .int .i64 iv := hv2 w0 F G M' T' a (fun q hq => g1 q (by simp [tmpsA, hq])) hT
      subst hq
      exact ⟨_, by simp [execOp, ho, e2, e3, Instr.indexAt, asIntOf, run_underlying hu, sizeOf, typeInfo, hj, hqn, Instr.sureAddr, Addr.add_lit], B, e1, rfl, e4⟩

theorem sound_iaddrS {t e : TypeId} {x i : Operand} {x' i' : Opd} {j : TypeInfo} (ho : o.op = .indexAddr t x i) (hu : P.underlying t = some (.slice e)) (hj : P.info? e = some j) (hx : copd x = some x') (hi : copd i = some i') {k : V → Eff → List Nm → Prop} :
    Sound P M T d o (.iaddrS j.size x' i') k := fun h => by
  obtain ⟨u1, h1, hv1⟩ := evK_ex hx h
  obtain ⟨u2, h2, hv2⟩ := evK_ex hi h1
  have run : ∀ (a : Act) (w : World) (b : Addr) (len cap : Nat) (iv : Int), a.eval x = .slice (some b) len cap → a.eval i = .int .i64 iv → 0 ≤ iv → iv < len → (execOp a.eval o).run P w = .ok (.value (.pointer (some (b.add (iv.toNat * j.size))))) w := fun a w b len cap iv e1 e2 h3 h4 => by
    simp [execOp, ho, e1, e2, Instr.indexAt, asIntOf, run_underlying hu, sizeOf, typeInfo, hj, h3, h4]
  match u2, h2 with
  | .c (.pv (.int .i64 iv)), h2 =>
    match u1, h2 with
    | .c (.slc n len), ⟨.cs e1 l, hn, ⟨h3, h4⟩, h5, hlen, h6⟩ =>
      refine ⟨_, _, _, h6, does_pure fun w0 F G M' T' a w g1 g2 hR hT => ?_⟩
      obtain ⟨b', sz', L', q1, q0, q2, ⟨b, cap, q3⟩, q4⟩ := hv1 w0 F G M' T' a (fun q hq => g1 q (by simp [tmpsA, hq])) hT
      have q5 : a.eval i = .int .i64 iv := hv2 w0 F G M' T' a (fun q hq => g1 q (by simp [tmpsA, hq])) hT
      have hn' := (g2 n (by simp)).trans hn
      rw [q1] at hn'
      obtain rfl := Option.some.inj hn'
      simp only [arrB, Option.some.injEq, Prod.mk.injEq] at q0
      obtain ⟨rfl, rfl⟩ := q0
      obtain ⟨vs, f1, f2, f4, f5⟩ := hR.own n _ q1
      have hb : ∃ B, b = some B := by
        have := q4 hlen
        rcases f4.2 with ⟨r1, r2⟩ | ⟨g, cp, cur, r1, _⟩
        · omega
        · rw [q3, r1] at this; simp at this; exact ⟨_, this.1⟩
      obtain ⟨B, rfl⟩ := hb
      refine ⟨_, run a w B len cap iv q3 q5 h3 h4, _, 1, l.length, q1, rfl, q2, ⟨_, rfl⟩, fun hl => ?_⟩
      have := q4 hl
      rcases f4.2 with ⟨r1, r2⟩ | ⟨g, cp, cur, r1, _⟩
      · omega
      · rw [q3, r1] at this
        simp at this
        obtain ⟨rfl, _, _⟩ := this
        exact ⟨g, _, _, r1, by rw [Addr.add_lit, ← h5]; simp⟩
    | .c (.slc n len), ⟨.fl e1 sz l, hn, ⟨h3, h4⟩, h5, hlen, h6⟩ =>
      refine ⟨_, _, _, h6, does_pure fun w0 F G M' T' a w g1 g2 hR hT => ?_⟩
      obtain ⟨b', sz', L', q1, q0, q2, ⟨b, cap, q3⟩, q4⟩ := hv1 w0 F G M' T' a (fun q hq => g1 q (by simp [tmpsA, hq])) hT
      have q5 : a.eval i = .int .i64 iv := hv2 w0 F G M' T' a (fun q hq => g1 q (by simp [tmpsA, hq])) hT
      have hn' := (g2 n (by simp)).trans hn
      rw [q1] at hn'
      obtain rfl := Option.some.inj hn'
      simp only [arrB, Option.some.injEq, Prod.mk.injEq] at q0
      obtain ⟨rfl, rfl⟩ := q0
      obtain ⟨f1, f2, f3, f4, f5⟩ := hR.fl q1
      have hb : ∃ B, b = some B := by
        have := q4 hlen
        rcases f4.2 with ⟨r1, r2⟩ | ⟨g, cp, cur, r1, _⟩
        · omega
        · rw [q3, r1] at this; simp at this; exact ⟨_, this.1⟩
      obtain ⟨B, rfl⟩ := hb
      refine ⟨_, run a w B len cap iv q3 q5 h3 h4, _, sz, l.length, q1, rfl, q2, ⟨_, rfl⟩, fun hl => ?_⟩
      have := q4 hl
      rcases f4.2 with ⟨r1, r2⟩ | ⟨g, cp, cur, r1, _⟩
      · omega
      · rw [q3, r1] at this
        simp at this
        obtain ⟨rfl, _, _⟩ := this
        exact ⟨g, _, _, r1, by rw [Addr.add_lit, h5]; simp⟩
    | .c (.view sz l), ⟨⟨h3, h4⟩, h5, es, h6, h7⟩ =>
      refine ⟨_, _, _, h7, does_pure fun w0 F G M' T' a w g1 g2 hR hT => ?_⟩
      obtain ⟨b, cap, q1, q2, q3, q4, q5⟩ := hv1 w0 F G M' T' a (fun q hq => g1 q (by simp [tmpsA, hq])) hT
      have q6 : a.eval i = .int .i64 iv := hv2 w0 F G M' T' a (fun q hq => g1 q (by simp [tmpsA, hq])) hT
      have hne : l ≠ [] := fun e => by subst e; simp at h6
      obtain ⟨B, ob, rfl, q7, q8⟩ := q5 hne
      refine ⟨_, run a w _ _ cap iv q1 q6 h3 h4, B, ob + iv.toNat * sz, q7, by rw [Addr.add_lit, h5]; rfl, fun j' v hv => ?_⟩
      exact q8 _ _ _ _ h6 hv
    | .c (.pvw v0 sz l), ⟨⟨h3, h4⟩, h5, es, h6, h7⟩ =>
      refine ⟨_, _, _, h7, does_pure fun w0 F G M' T' a w g1 g2 hR hT => ?_⟩
      obtain ⟨q0, b, cap, q1, q2, q3, q4, q5⟩ := hv1 w0 F G M' T' a (fun q hq => g1 q (by simp [tmpsA, hq])) hT
      have q6 : a.eval i = .int .i64 iv := hv2 w0 F G M' T' a (fun q hq => g1 q (by simp [tmpsA, hq])) hT
      have hne : l ≠ [] := fun e => by subst e; simp at h6
      obtain ⟨B, ob, rfl, q7, q8⟩ := q5 hne
      refine ⟨_, run a w _ _ cap iv (q0.trans q1) q6 h3 h4, B, ob + iv.toNat * sz, q7, by rw [Addr.add_lit, h5]; rfl, fun j' v hv => ?_⟩
      exact q8 _ _ _ _ h6 hv
    | .c (.sub n len lo cnt), ⟨.fl e1 sz l, hn, ⟨h3, h4⟩, h5, hlen, h6⟩ =>
      refine ⟨_, _, _, h6, does_pure fun w0 F G M' T' a w g1 g2 hR hT => ?_⟩
      obtain ⟨e', sz', l', q1, q2, ⟨b, cap, q3⟩, q4⟩ := hv1 w0 F G M' T' a (fun q hq => g1 q (by simp [tmpsA, hq])) hT
      have q5 : a.eval i = .int .i64 iv := hv2 w0 F G M' T' a (fun q hq => g1 q (by simp [tmpsA, hq])) hT
      have hn' := (g2 n (by simp)).trans hn
      rw [q1] at hn'
      simp only [Option.some.injEq, Blk.fl.injEq] at hn'
      obtain ⟨rfl, rfl, rfl⟩ := hn'
      obtain ⟨p1, p2⟩ := q4 hlen
      obtain ⟨B, m, c1, c2, r1, r2⟩ := p2 (by omega)
      refine ⟨_, run a w _ _ _ iv r2 q5 h3 h4, _, sz', l'.length, q1, rfl, q2, ⟨_, rfl⟩, fun hl => ⟨B, m, c1, r1, ?_⟩⟩
      rw [Addr.add_lit, h5, Nat.add_mul]; simp

theorem sound_sl {t e : TypeId} {x : Operand} {x' : Opd} {lo hi : Option Operand} {lo' hi' : Option Opd} {j : TypeInfo} (ho : o.op = .slice t x lo hi none) (hu : P.underlying t = some (.slice e)) (hj : P.info? e = some j) (hx : copd x = some x')
    (hlo : (lo = none ∧ lo' = none) ∨ ∃ y y', lo = some y ∧ lo' = some y' ∧ copd y = some y') (hhi : (hi = none ∧ hi' = none) ∨ ∃ y y', hi = some y ∧ hi' = some y' ∧ copd y = some y') {k : V → Eff → List Nm → Prop} :
    Sound P M T d o (.sl j.size x' lo' hi') k := fun h => by
  obtain ⟨u1, h1, hv1⟩ := evK_ex hx h
  match u1, h1 with
  | .c (.view sz l), ⟨hsz, p, q, hpq, hql, hp, hq, h2⟩ =>
    subst hsz
    refine ⟨_, _, _, h2, does_pure fun w0 F G M' T' a w g1 g2 hR hT => ?_⟩
    obtain ⟨b, cap, q1, q2, q3, q4, q5⟩ := hv1 w0 F G M' T' a (fun q hq => g1 q (by simp [tmpsA, hq])) hT
    have ht' : P.underlying t = some (.slice (P.elem t)) := by rw [hu]; simp [Program.elem, hu]
    have hel : P.elem t = e := by simp [Program.elem, hu]
    have ev : ∀ (y : Operand) (y' : Opd) (n : Nat), copd y = some y' → (∀ t, t ∈ opdT y' → T'[t]? = T[t]?) → evK T y' (fun v => v = .c (.pv (.int .i64 n))) → a.eval y = .int .i64 n := fun y y' n hy hts hk => by
      obtain ⟨v, rfl, hv⟩ := evK_ex hy hk
      exact hv w0 F G M' T' a hts hT
    have run : (Instr.slice t (.slice b l.length cap) (lo.map a.eval) (hi.map a.eval) none).run P w = .ok (sliced b p q cap j.size) w := by
      rcases hlo with ⟨rfl, rfl⟩ | ⟨y, y', rfl, rfl, hy⟩ <;> rcases hhi with ⟨rfl, rfl⟩ | ⟨z, z', rfl, rfl, hz⟩
      · simp only at hp hq
        subst hp hq
        have := run_slice_all (P := P) w t b l.length cap ht'
        simpa [sizeOf, typeInfo, hel, hj] using this
      · simp only at hp
        subst hp
        have e1 := ev z z' q hz (fun t ht => g1 t (by simp [tmpsA, optT, ht])) hq
        have := run_slice_h (P := P) w t b l.length cap ht' .i64 (q : Int) (by omega) (by omega)
        simpa [sizeOf, typeInfo, hel, hj, e1] using this
      · simp only at hq
        subst hq
        have e1 := ev y y' p hy (fun t ht => g1 t (by simp [tmpsA, optT, ht])) hp
        have := run_slice_l (P := P) w t b l.length cap ht' .i64 (p : Int) (by omega) (by omega)
        simpa [sizeOf, typeInfo, hel, hj, e1] using this
      · have e1 := ev y y' p hy (fun t ht => g1 t (by simp [tmpsA, optT, ht])) hp
        have e2 := ev z z' q hz (fun t ht => g1 t (by simp [tmpsA, optT, ht])) hq
        have := run_slice_lh (P := P) w t b l.length cap ht' .i64 .i64 (p : Int) (q : Int) (by omega) (by omega) (by omega)
        simpa [sizeOf, typeInfo, hel, hj, e1, e2] using this
    refine ⟨.slice (if cap = p then b else b.map (·.add (p * j.size))) (q - p) (cap - p), ?_, ?_⟩
    · have := run_sliceAt_slice (P := P) w t (.slice b l.length cap) (lo.map a.eval) (hi.map a.eval) none ht'
      rw [run] at this
      simp [execOp, ho, q1, this, sliced]
    · have hlen : ((l.take q).drop p).length = q - p := by simp; omega
      refine ⟨_, cap - p, by rw [hlen], by rw [hlen]; omega, fun r hr => q3 r (List.mem_of_mem_take (List.mem_of_mem_drop hr)), fun r hr => q4 r (List.mem_of_mem_take (List.mem_of_mem_drop hr)), fun hne => ?_⟩
      have hpq' : p < q := by
        rcases Nat.lt_or_ge p q with h | h
        · exact h
        · exact absurd (List.eq_nil_of_length_eq_zero (by rw [hlen]; omega)) hne
      have hl : l ≠ [] := fun e => by subst e; simp at hql; omega
      obtain ⟨B, ob, rfl, q7, q8⟩ := q5 hl
      refine ⟨B, ob + p * j.size, ?_, q7, fun i r j' v hi hv => ?_⟩
      · rw [if_neg (by omega)]
        simp [Addr.add_lit]
      · rw [List.getElem?_drop, List.getElem?_take] at hi
        split at hi
        · have := q8 (p + i) r j' v hi hv
          rw [show ob + p * j.size + i * j.size + j' = ob + (p + i) * j.size + j' by rw [Nat.add_mul]; omega]
          exact this
        · cases hi
  | .c (.slc n len), ⟨.fl e1 sz l, hn, hsz, hlen, p, q, hpq, hql, hp, hq, h2⟩ =>
    subst hsz
    refine ⟨_, _, _, h2, does_pure fun w0 F G M' T' a w g1 g2 hR hT => ?_⟩
    obtain ⟨b', sz', L', q1, q0, q2, ⟨b0, cap0, q3⟩, q4⟩ := hv1 w0 F G M' T' a (fun q hq => g1 q (by simp [tmpsA, hq])) hT
    have hn' := (g2 n (by simp)).trans hn
    rw [q1] at hn'
    obtain rfl := Option.some.inj hn'
    simp only [arrB, Option.some.injEq, Prod.mk.injEq] at q0
    obtain ⟨rfl, rfl⟩ := q0
    obtain ⟨f1, f2, f3, f4, f5⟩ := hR.fl q1
    have hG := q4 hlen
    have hcap : ∃ b cap, a.eval x = .slice b l.length cap ∧ l.length ≤ cap ∧ (l.length = 0 ∨ ∃ B, b = some ⟨B, 0, none⟩ ∧ ∃ m c, G n = .slice (some ⟨B, 0, none⟩) m c) := by
      rcases f4.2 with ⟨r1, r2⟩ | ⟨B, cap, cur, r1, _, r3, r4, _⟩
      · exact ⟨none, 0, by rw [hG, r1, r2], by omega, .inl r2⟩
      · exact ⟨_, cap, by rw [hG, r1], r4, .inr ⟨B, rfl, _, _, r1⟩⟩
    obtain ⟨b, cap, q5, q6, q7⟩ := hcap
    have ht' : P.underlying t = some (.slice (P.elem t)) := by rw [hu]; simp [Program.elem, hu]
    have hel : P.elem t = e := by simp [Program.elem, hu]
    have ev : ∀ (y : Operand) (y' : Opd) (n : Nat), copd y = some y' → (∀ t, t ∈ opdT y' → T'[t]? = T[t]?) → evK T y' (fun v => v = .c (.pv (.int .i64 n))) → a.eval y = .int .i64 n := fun y y' n hy hts hk => by
      obtain ⟨v, rfl, hv⟩ := evK_ex hy hk
      exact hv w0 F G M' T' a hts hT
    have run : (Instr.slice t (.slice b l.length cap) (lo.map a.eval) (hi.map a.eval) none).run P w = .ok (sliced b p q cap j.size) w := by
      rcases hlo with ⟨rfl, rfl⟩ | ⟨y, y', rfl, rfl, hy⟩ <;> rcases hhi with ⟨rfl, rfl⟩ | ⟨z, z', rfl, rfl, hz⟩
      · simp only at hp hq
        subst hp hq
        have := run_slice_all (P := P) w t b l.length cap ht'
        simpa [sizeOf, typeInfo, hel, hj] using this
      · simp only at hp
        subst hp
        have e1 := ev z z' q hz (fun t ht => g1 t (by simp [tmpsA, optT, ht])) hq
        have := run_slice_h (P := P) w t b l.length cap ht' .i64 (q : Int) (by omega) (by omega)
        simpa [sizeOf, typeInfo, hel, hj, e1] using this
      · simp only at hq
        subst hq
        have e1 := ev y y' p hy (fun t ht => g1 t (by simp [tmpsA, optT, ht])) hp
        have := run_slice_l (P := P) w t b l.length cap ht' .i64 (p : Int) (by omega) (by omega)
        simpa [sizeOf, typeInfo, hel, hj, e1] using this
      · have e1 := ev y y' p hy (fun t ht => g1 t (by simp [tmpsA, optT, ht])) hp
        have e2 := ev z z' q hz (fun t ht => g1 t (by simp [tmpsA, optT, ht])) hq
        have := run_slice_lh (P := P) w t b l.length cap ht' .i64 .i64 (p : Int) (q : Int) (by omega) (by omega) (by omega)
        simpa [sizeOf, typeInfo, hel, hj, e1, e2] using this
    refine ⟨.slice (if cap = p then b else b.map (·.add (p * j.size))) (q - p) (cap - p), ?_, ?_⟩
    · have := run_sliceAt_slice (P := P) w t (.slice b l.length cap) (lo.map a.eval) (hi.map a.eval) none ht'
      rw [run] at this
      simp [execOp, ho, q5, this, sliced]
    · refine ⟨e1, _, l, q1, q2, ⟨_, _, rfl⟩, fun hl => ⟨by omega, fun hpos => ?_⟩⟩
      rcases q7 with h0 | ⟨B, rfl, m, c, hg⟩
      · omega
      · refine ⟨B, m, c, cap - p, hg, ?_⟩
        rw [if_neg (by omega)]
        simp [Addr.add_lit]
end
end Go.Proofs.Ytfbadfnhnaaeeaa
