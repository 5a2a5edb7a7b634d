/- The abstract machine: maps of integers, iterators. -/
import Derived.Test.YtfbadfnhnaaeeaaE13
import Derived.Laws.IdiomRangeMap
namespace Go.Proofs.Ytfbadfnhnaaeeaa
set_option linter.unusedSimpArgs false
set_option linter.unusedVariables false
open Go.RowKit

def entI (e : Int × Value × Nat) : Value × Value × Nat := (.int .i64 e.1, e.2.1, e.2.2)
def entM (e : MapEntry) : Value × Value × Nat := (e.key, e.val, e.born)
theorem find_ints (a : Int) (u : Value) : ∀ (es : List MapEntry) (l : List (Int × Value × Nat)) (i0 : Nat), es.map entM = l.map entI →
    if l.any (fun e => e.1 == a) then ∃ i v, Instr.findNow (.int .i64) (.int .i64 a) es i0 = some (some (i0 + i, v)) ∧ (es.modify i fun e => { e with key := .int .i64 a, val := u }).map entM = (mpMod a u l).map entI ∧ (es[i]?).map (·.key) = some (.int .i64 a)
    else Instr.findNow (.int .i64) (.int .i64 a) es i0 = some none
  | [], [], i0, _ => by simp [Instr.findNow]
  | [], _ :: _, _, h => by simp at h
  | _ :: _, [], _, h => by simp at h
  | e :: es, p :: l, i0, h => by
    simp only [List.map_cons, List.cons.injEq] at h
    obtain ⟨h1, h2⟩ := h
    obtain ⟨b, v, s⟩ := p
    have hk : e.key = .int .i64 b := (Prod.mk.inj h1).1
    have hrest : (e.val, e.born) = (v, s) := (Prod.mk.inj h1).2
    have ih := find_ints a u es l (i0 + 1) h2
    by_cases hb : b = a
    · subst hb
      simp only [List.any_cons, beq_self_eq_true, Bool.true_or, if_true]
      refine ⟨0, e.val, ?_, ?_, by simp [hk]⟩
      · simp [Instr.findNow, Instr.sameNow, hk]
      · have e2 : e.born = s := (Prod.mk.inj hrest).2
        simp [mpMod, entM, entI, e2]
        exact h2
    · have hba : (b == a) = false := by simpa using hb
      have hab : (a == b) = false := by simpa using fun e => hb e.symm
      have hf : Instr.findNow (.int .i64) (.int .i64 a) (e :: es) i0 = Instr.findNow (.int .i64) (.int .i64 a) es (i0 + 1) := by
        simp [Instr.findNow, Instr.sameNow, hk, hab]
      simp only [List.any_cons, hba, Bool.false_or]
      split
      · rename_i hc
        rw [if_pos hc] at ih
        obtain ⟨i, x, q1, q2, q3⟩ := ih
        refine ⟨i + 1, x, by rw [hf, q1]; congr 3; omega, ?_, by simpa using q3⟩
        simp only [List.modify_succ_cons, List.map_cons, mpMod, hba, Bool.false_eq_true, if_false, List.cons.injEq]
        exact ⟨h1, q2⟩
      · rename_i hc
        rw [if_neg hc] at ih
        rw [hf, ih]

section
variable {P : Program} {w0 : World} {F : Nat → Prop} {G : Gh} {M : Mem} {w : World} {T : List V} {a : Act} {o : Oper} {d : Nat} {K : Act → World → Prop} {Q : Exit → Act → World → Prop}

theorem run_mset {t kt et : TypeId} (ht : P.underlying t = some (.map kt et)) (hk : P.underlying kt = some (.int .i64)) {r clock : Nat} {es : Array MapEntry} {l : List (Int × Value × Nat)} (hb : w.heap[r]? = some (.map es clock)) (hl : es.toList.map entM = l.map entI) (x : Int) (u : Value) :
    ∃ es' : Array MapEntry, (Instr.mapUpdate t (.map (some r)) (.int .i64 x) u).run P w = .ok () { w with heap := w.heap.setIfInBounds r (.map es' (mpC clock l x)) } ∧ es'.toList.map entM = (mpL clock l x u).map entI := by
  have hf := find_ints x u es.toList l 0 hl
  have hck : (Instr.checkKey false 10000 kt (.int .i64 x)).run P w = .ok () w := by
    rw [show (10000 : Nat) = 9999 + 1 from rfl]
    unfold Instr.checkKey
    simp only [Sem.run_bind, run_underlying hk, Result.andThen_ok]
    rfl
  by_cases hc : (l.any fun e => e.1 == x) = true
  · rw [if_pos hc] at hf
    obtain ⟨i, v, q1, q2, q3⟩ := hf
    rw [Nat.zero_add] at q1
    refine ⟨es.modify i fun e => { e with key := .int .i64 x, val := u }, ?_, ?_⟩
    · have hfk : (Instr.findKey kt (.int .i64 x) es.toList).run P w = .ok (some (i, v)) w := by
        simp [Instr.findKey, run_underlying hk, q1]
      have hst : (Instr.keyThatStays (((es[i]?).map (·.key)).getD (.int .i64 x)) (.int .i64 x)).run P w = .ok (.int .i64 x) w := by
        have : (es[i]?).map (·.key) = some (.int .i64 x) := by rw [← Array.getElem?_toList]; exact q3
        rw [this]
        simp [Instr.keyThatStays, Instr.sameBits]
      have hset := MapKept.run_setObj_map (P := P) (.map (es.modify i fun e => { e with key := .int .i64 x, val := u }) clock) hb
      unfold Instr.mapUpdate
      simp only [Sem.run_bind, run_underlying ht, Result.andThen_ok, MapKept.run_getObj_map hb, hck, hfk, hst, hset]
      simp only [mpC, if_pos hc]
    · rw [Array.toList_modify, q2, mpL, if_pos hc]
  · rw [if_neg hc] at hf
    refine ⟨es.push { key := .int .i64 x, val := u, born := clock }, ?_, ?_⟩
    · have hfk : (Instr.findKey kt (.int .i64 x) es.toList).run P w = .ok none w := by
        simp [Instr.findKey, run_underlying hk, hf]
      have hset := MapKept.run_setObj_map (P := P) (.map (es.push { key := .int .i64 x, val := u, born := clock }) (clock + 1)) hb
      unfold Instr.mapUpdate
      simp only [Sem.run_bind, run_underlying ht, Result.andThen_ok, MapKept.run_getObj_map hb, hck, hfk, hset]
      simp only [mpC, if_neg hc]
    · rw [mpL, if_neg hc]
      simp [hl, entM, entI]

theorem sound_mkm {t : TypeId} (ho : o.op = .makeMap t none) {k : V → Eff → List Nm → Prop} : Sound P M T d o .mkm k := fun h => by
  refine ⟨_, _, _, h, fun w0 F G M' T' g1 g2 hok a w K Q hR hT hK => ?_⟩
  have hno : ¬ F w.heap.size := fun hF => by have := hR.bd _ hF; have := hR.size; omega
  refine wp_value (v := .map (some w.heap.size)) (w' := w.alloc (.map #[] 0)) ?_ (hK _ _ (G.set (d, 0) (.map (some w.heap.size))) ?_ (fun x u hx => hx.new hok.1) ⟨(Gh.set_self _ _ _).symm, rfl, _, Mem.set_self _ _ _, rfl⟩)
  · simp [execOp, ho, run_makeMap]
  · refine hR.new hok.1 rfl rfl rfl (by simp) (fun k _ hk => Below.heap_alloc w _ k hk) (fun B hB => by simp [blkOf] at hB; omega) ⟨w.heap.size, #[], rfl, hno, heap_alloc_new _ _, rfl⟩

theorem mp_of (hR : Rel w0 F G M w) {n : Nm} {clock : Nat} {l : List (Int × Value × Nat)} (hn : M n = some (.mp clock l)) : ∃ B es, G n = .map (some B) ∧ ¬ F B ∧ w.heap[B]? = some (.map es clock) ∧ es.toList.map entM = l.map entI := hR.own n _ hn

theorem sound_mset {t kt et : TypeId} {x y z : Operand} {x' y' z' : Opd} (ho : o.op = .mapUpdate t x y z ∨ o.op = .insert t x y z) (ht : P.underlying t = some (.map kt et)) (hk : P.underlying kt = some (.int .i64)) (hx : copd x = some x') (hy : copd y = some y') (hz : copd z = some z') {k : V → Eff → List Nm → Prop} : Sound P M T d o (.mset x' y' z') k := fun h => by
  obtain ⟨u1, h1, hv1⟩ := evK_ex hx h
  split at h1
  case h_2 => exact h1.elim
  rename_i n
  obtain ⟨b, hb, h1⟩ := h1
  split at h1
  case h_2 => exact h1.elim
  rename_i clock l
  obtain ⟨u2, h2, hv2⟩ := evK_ex hy h1
  split at h2
  case h_2 => exact h2.elim
  rename_i ky
  obtain ⟨u3, h3, hv3⟩ := evK_ex hz h2
  split at h3
  case h_2 => exact h3.elim
  rename_i u
  obtain ⟨h4, h5⟩ := guardK_iff.1 h3
  refine ⟨_, _, _, h5, fun w0 F G M' T' g1 g2 hok a w K Q hR hT hK => ?_⟩
  have hn := (g2 n (by simp)).trans hb
  obtain ⟨B, es, e1, e2, e3, e4⟩ := mp_of hR hn
  have ex : a.eval x = .map (some B) := ((hv1 w0 F G M' T' a (fun q hq => g1 q (by simp [tmpsA, hq])) hT).1).trans e1
  have ey : a.eval y = .int .i64 ky := hv2 w0 F G M' T' a (fun q hq => g1 q (by simp [tmpsA, hq])) hT
  have ez : a.eval z = u := hv3 w0 F G M' T' a (fun q hq => g1 q (by simp [tmpsA, hq])) hT
  obtain ⟨es', r1, r2⟩ := run_mset ht hk e3 e4 ky u
  have hB : B < w.heap.size := (Array.getElem?_eq_some_iff.1 e3).1
  have hturn : Turns (.mp clock l) (.mp (mpC clock l ky) (mpL clock l ky u)) (G n) (G n) := rfl
  refine wp_skip' (w' := { w with heap := w.heap.setIfInBounds B (.map es' (mpC clock l ky)) }) ?_ (hK _ _ (G.set n (G n)) ?_ (fun x u hx => hx.upd hn hturn) rfl)
  · rcases ho with ho | ho <;> simp [execOp, ho, ex, ey, ez, r1]
  · refine hR.upd hn hturn rfl rfl rfl (by simp) (fun k hk hlt => ?_) (fun B' hB' => .inl hB') ⟨B, es', e1, e2, ?_, r2⟩
    · have : k ≠ B := fun e => hk (by rw [e, e1]; rfl)
      simp only
      rw [Array.getElem?_setIfInBounds_ne (by omega)]
    · simp [hB]

theorem sound_rng {t kt et : TypeId} {x : Operand} {x' : Opd} (ho : o.op = .range t x) (ht : P.underlying t = some (.map kt et)) (hx : copd x = some x') {k : V → Eff → List Nm → Prop} : Sound P M T d o (.rng x') k := fun h => by
  obtain ⟨u1, h1, hv1⟩ := evK_ex hx h
  split at h1
  case h_2 => exact h1.elim
  rename_i n
  obtain ⟨b, hb, h1⟩ := h1
  split at h1
  case h_2 => exact h1.elim
  rename_i clock l
  refine ⟨_, _, _, h1, fun w0 F G M' T' g1 g2 hok a w K Q hR hT hK => ?_⟩
  have hn := (g2 n (by simp)).trans hb
  obtain ⟨B, es, e1, e2, e3, e4⟩ := mp_of hR hn
  have hc := hv1 w0 F G M' T' a g1 hT
  have ex : a.eval x = .map (some B) := hc.1.trans e1
  have hno : ¬ F w.heap.size := fun hF => by have := hR.bd _ hF; have := hR.size; omega
  refine wp_value (v := .pointer (some ⟨w.heap.size, 0, none⟩)) (w' := w.alloc (.mapIter (some B) clock #[] clock)) ?_ (hK _ _ (G.set (d, 0) (.pointer (some ⟨w.heap.size, 0, none⟩))) ?_ (fun x u hx => hx.new hok.1) ⟨(Gh.set_self _ _ _).symm, rfl, _, Mem.set_self _ _ _, rfl⟩)
  · simp [execOp, ho, ex, run_range_map w t kt et B es clock ht e3]
  · refine hR.new hok.1 rfl rfl rfl (by simp) (fun k _ hk => Below.heap_alloc w _ k hk) (fun B hB => by simp [blkOf] at hB; omega) ⟨w.heap.size, B, rfl, hno, ?_, heap_alloc_new _ _⟩
    exact (ConcC.new (x := .ref n) hok.1 ⟨e1.symm, rfl, _, hn, rfl⟩)

theorem find_ents {es : List MapEntry} {l : List (Int × Value × Nat)} {b : Nat} {e : Int × Value × Nat} (h : es.map entM = l.map entI) (hf : l.find? (fun e => e.2.2 == b) = some e) : ∃ m, es.find? (fun e => e.born == b) = some m ∧ m.key = .int .i64 e.1 ∧ m.val = e.2.1 := by
  induction es generalizing l with
  | nil =>
    cases l with
    | nil => simp at hf
    | cons p l => simp at h
  | cons m es ih =>
    cases l with
    | nil => simp at h
    | cons p l =>
      simp only [List.map_cons, List.cons.injEq] at h
      obtain ⟨h1, h2⟩ := h
      obtain ⟨q1, h1⟩ := Prod.mk.inj h1
      obtain ⟨q2, q3⟩ := Prod.mk.inj h1
      rw [List.find?_cons] at hf ⊢
      rw [q3]
      split at hf
      · rename_i hc
        simp only [Option.some.injEq] at hf
        subst hf
        exact ⟨m, rfl, q1, q2⟩
      · rename_i hc
        exact ih h2 hf

theorem sound_ent {x : Operand} {x' : Opd} (ho : o.op = .entry x) (hx : copd x = some x') {k : V → Eff → List Nm → Prop} : Sound P M T d o (.ent x') k := fun h => by
  obtain ⟨u1, h1, hv1⟩ := evK_ex hx h
  split at h1
  case h_2 => exact h1.elim
  rename_i n
  obtain ⟨b, hb, h1⟩ := h1
  split at h1
  case h_2 => exact h1.elim
  rename_i q since seen c0
  obtain ⟨b2, hb2, h1⟩ := h1
  split at h1
  case h_2 => exact h1.elim
  rename_i clock l
  obtain ⟨rfl, e, s, h2, h3, h4⟩ := h1
  refine ⟨_, _, _, h4, does_pure fun w0 F G M' T' a w g1 g2 hR hT => ?_⟩
  have hn := (g2 n (by simp)).trans hb
  have hq := (g2 q (by simp)).trans hb2
  obtain ⟨B, es, e1, e2, e3, e4⟩ := mp_of hR hq
  obtain ⟨B', Bm, f1, f2, f3, f4⟩ := hR.own n _ hn
  have hBm : Bm = B := by
    have := f3.1.trans e1
    simpa using this
  subst hBm
  have ex : a.eval x = .pointer (some ⟨B', 0, none⟩) := ((hv1 w0 F G M' T' a g1 hT).1).trans f1
  obtain ⟨m, p1, p2, p3⟩ := find_ents e4 h3
  refine ⟨.tuple #[m.key, m.val], ?_, _, rfl, rfl, fun j p hj => ?_⟩
  · have hba : seen.toArray.back? = some s := by simpa [Array.back?, List.getLast?_eq_getElem?] using h2
    have hfa : es.find? (fun x => x.born == s) = some m := by rw [← Array.find?_toList]; exact p1
    simp only [execOp, ho, ex, Instr.entry, getObj, Sem.run_bind, Sem.run, f4, e3, Result.andThen, hba, bne_self_eq_false, Bool.false_eq_true, if_false, hfa]
    rfl
  · match j, hj with
    | 0, hj => simp at hj; subst hj; exact ⟨_, rfl, _, rfl, p2⟩
    | 1, hj => simp at hj; subst hj; exact ⟨_, rfl, _, rfl, p3⟩
    | j + 2, hj => simp at hj
end

/-- 'next' over a map that no insertion has touched since the loop began. -/
theorem run_next_at {P : Program} (w : World) (ty : TypeId) (r bm since c0 : Nat) (seen : Array Nat) (es : Array MapEntry) (clock : Nat) (hr : w.heap[r]? = some (.mapIter (some bm) since seen c0)) (hb : w.heap[bm]? = some (.map es clock)) (hold : ∀ x ∈ es.toList, x.born < since) (hsc : since ≤ c0) :
    ((∀ e ∈ es.toList, seen.contains e.born = true) ∧ (Instr.next (.pointer (some ⟨r, 0, none⟩)) false ty).run P w = .ok (.tuple #[.bool false]) w) ∨
    ∃ e, (e ∈ es.toList ∧ seen.contains e.born = false) ∧ ∃ w1 : World, (w1.heap = w.heap ∧ w1.os = w.os ∧ w1.tape = w.tape ∧ w1.output = w.output) ∧ (Instr.next (.pointer (some ⟨r, 0, none⟩)) false ty).run P w = .ok (.tuple #[.bool true, e.key, e.val]) { w1 with heap := w1.heap.setIfInBounds r (.mapIter (some bm) since (seen.push e.born) clock) } := by
  simp only [Instr.next, getObj, Sem.run_bind, Sem.run, hr, hb, Result.andThen, next_test_false seen es since c0 hold hsc, Bool.false_eq_true, if_false]
  have hmem : ∀ x ∈ (Array.filter (fun e => !seen.contains e.born) es).toList, x ∈ es.toList ∧ seen.contains x.born = false := fun x hx => by
    have := Array.mem_filter.1 (Array.mem_toList_iff.1 hx)
    exact ⟨Array.mem_toList_iff.2 this.1, by simpa using this.2⟩
  have hall : (Array.filter (fun e => !seen.contains e.born) es).size = 0 → ∀ e ∈ es.toList, seen.contains e.born = true := fun h0 e he => by
    cases hc : seen.contains e.born with
    | true => rfl
    | false =>
      have : e ∈ Array.filter (fun e => !seen.contains e.born) es := Array.mem_filter.2 ⟨Array.mem_toList_iff.1 he, by rw [hc]; rfl⟩
      rw [Array.eq_empty_of_size_eq_zero h0] at this
      simp at this
  generalize Array.filter (fun e => !seen.contains e.born) es = L at hmem hall ⊢
  have e1 : L.filter (fun x => decide (x.born < since)) = L := Array.filter_eq_self.2 (fun x hx => by simpa using hold x (hmem x (by simpa using hx)).1)
  have e2 : L.filter (fun x => decide (x.born ≥ since)) = #[] := by
    rw [Array.filter_eq_empty_iff]
    intro x hx
    have := hold x (hmem x (by simpa using hx)).1
    simp
    omega
  simp only [e1, e2, Array.append_empty]
  by_cases h0 : L.size = 0
  · left
    refine ⟨hall h0, ?_⟩
    have : L = #[] := Array.eq_empty_of_size_eq_zero h0
    subst this
    simp [choose, Sem.run, Question.forced]
  · right
    have hne : L.isEmpty = false := by simp [Array.isEmpty, h0]
    simp only [hne, Bool.false_eq_true, if_false, Array.empty_append, Array.size_map]
    have hch : ∃ (j : Nat) (w1 : World), j < L.size ∧ (w1.heap = w.heap ∧ w1.os = w.os ∧ w1.tape = w.tape ∧ w1.output = w.output) ∧ (choose (Question.mapNext L.size)).run P w = .ok j w1 := by
      by_cases hf : L.size ≤ 1
      · exact ⟨0, w, by omega, ⟨rfl, rfl, rfl, rfl⟩, by simp [choose, Sem.run, Question.forced, hf]⟩
      · exact ⟨_, w.drew, Nat.mod_lt _ (by omega), ⟨rfl, rfl, rfl, rfl⟩, by
          simp only [choose, Sem.run, Question.forced, decide_eq_true_eq, hf, if_false, Question.cut]
          rfl⟩
    obtain ⟨j, w1, hj, hal, hrun⟩ := hch
    refine ⟨L[j], hmem _ (by simp), w1, hal, ?_⟩
    have hset : ∀ (o' : Obj), (setObj r o').run P w1 = .ok () { w1 with heap := w1.heap.setIfInBounds r o' } := fun o' => by
      simp only [setObj, Sem.run, hal.1, hr]
    simp only [hrun, Array.getElem?_map, Array.getElem?_eq_getElem hj, Option.map_some, Sem.run_bind, hset, Result.andThen]
    rfl
end Go.Proofs.Ytfbadfnhnaaeeaa
