/- The abstract machine: structs built, slices written out, stores, appends, make. -/
import Derived.Test.YtfbadfnhnaaeeaaE7
namespace Go.Proofs.Ytfbadfnhnaaeeaa
set_option linter.unusedSimpArgs false
set_option linter.unusedVariables false
open Go.RowKit

section
variable {P : Program} {w0 : World} {F : Nat → Prop} {G : Gh} {M : Mem} {w : World} {T : List V} {a : Act} {o : Oper} {d : Nat} {K : Act → World → Prop} {Q : Exit → Act → World → Prop}

theorem csize_info {t : TypeId} {s : Option Nat} (hs : csize P t = some s) : ∃ i, P.info? t = some i ∧ i.size = s.getD 1 := by
  unfold csize at hs
  cases hu : P.underlying t with
  | none => rw [hu] at hs; simp at hs
  | some td =>
    cases hi : P.info? t with
    | none => rw [hu, hi] at hs; cases td <;> simp at hs
    | some i =>
      rw [hu, hi] at hs
      refine ⟨i, rfl, ?_⟩
      have one : (if i.size = 1 then some none else none : Option (Option Nat)) = some s → i.size = s.getD 1 := fun h => by
        split at h
        · cases h; assumption
        · cases h
      cases td with
      | struct _ => simp only [Option.some.injEq] at hs; subst hs; rfl
      | array _ _ => simp only [Option.some.injEq] at hs; subst hs; rfl
      | _ => exact one hs
theorem sizeB_eq {s : Option Nat} {n : Nat} (h : sizeB s n = true) : n = s.getD 1 := by
  unfold sizeB at h
  split at h <;> exact Nat.eq_of_beq_eq_true h

theorem sound_build {t : TypeId} {parts : Array (Nat × Operand)} {fs : Array Field} {z : Value} {ps : List (Nat × Option Nat × Opd)} (ho : o.op = .build t parts) (hu : P.underlying t = some (.struct fs)) (hz : zeroOf P t = some z) (hps : cparts P fs parts.toList = some ps)
    (hall : fs.all (fun f => (P.info? f.type).isSome) = true) {k : V → Eff → List Nm → Prop} :
    Sound P M T d o (.build (zcells d (slicesIn P t) z.cells.toList 0).1 (zcells d (slicesIn P t) z.cells.toList 0).2 ps) k := fun h => by
  obtain ⟨l, h1, h2⟩ := parts_ex hps h
  refine ⟨_, _, _, h1, fun w0 F G M' T' g1 g2 hok a w K Q hR hT hK => ?_⟩
  obtain ⟨G', r1, r2, r3, r4⟩ := rel_nils _ hR hok (zcells_nils slicesIn_pos _ _)
  have hT' : TRel w0 F G' (appN (zcells d (slicesIn P t) z.cells.toList 0).2 M') T' a := ⟨hT.size, hT.defers, fun i x hx => let ⟨v, q1, q2⟩ := hT.tm i x hx; ⟨v, q1, q2.mono r2⟩⟩
  obtain ⟨us, u1, u2⟩ := h2 w0 F G' _ T' a _ g1 hT' (zcells_conc z.cells.toList 0 r3)
  have hz' : ∃ i, P.info? t = some i ∧ i.zero = some z := by
    unfold zeroOf at hz
    cases hi : P.info? t with
    | none => rw [hi] at hz; cases hz
    | some i => rw [hi] at hz; exact ⟨i, rfl, hz⟩
  obtain ⟨i, hi, hiz⟩ := hz'
  have hall' : ∀ f ∈ fs.toList, ∃ j, P.info? f.type = some j := fun f hf => Option.isSome_iff_exists.1 (Array.all_eq_true_iff_forall_mem.1 hall f (by simpa using hf))
  have places : ∀ (l : List Field), (∀ f ∈ l, ∃ j, P.info? f.type = some j) → ∃ pl, l.mapM (fun f => (P.info? f.type).map fun i => (f.offset, i.size)) = some pl ∧ ∀ (i : Nat) f, l[i]? = some f → ∃ j, P.info? f.type = some j ∧ pl[i]? = some (f.offset, j.size) := by
    intro l
    induction l with
    | nil => intro _; exact ⟨[], rfl, fun i f hf => by simp at hf⟩
    | cons f l ih =>
      intro hl
      obtain ⟨pl, q1, q2⟩ := ih fun g hg => hl g (by simp [hg])
      obtain ⟨j, hj⟩ := hl f (by simp)
      refine ⟨(f.offset, j.size) :: pl, by simp [List.mapM_cons, hj, q1], fun i g hg => ?_⟩
      cases i with
      | zero => simp at hg; subst hg; exact ⟨j, hj, rfl⟩
      | succ i => simp at hg; exact q2 i g hg
  obtain ⟨pl, q1, q2⟩ := places fs.toList hall'
  have hfill := u2 (pl.toArray[·]?) fun i f hf => by
    obtain ⟨j, e1, e2⟩ := q2 i f (by simpa using hf)
    exact ⟨j, e1, by simpa using e2⟩
  have hb := run_build (P := P) w t (parts.map fun p => (p.1, a.eval p.2)) us.toArray (by
    unfold Program.built
    simp only [hi, hu, hiz, q1]
    simpa using hfill)
  refine wp_value (v := .agg us.toArray) (w' := w) ?_ (hK _ _ G' r1 r2 ⟨us.toArray, rfl, by simpa [Eff.app] using u1⟩)
  simp [execOp, ho, hb]

theorem sound_buildA {t e : TypeId} {n : Nat} {ie : TypeInfo} {parts : Array (Nat × Operand)} {z : Value} {ps : List (Nat × Option Nat × Opd)} (ho : o.op = .build t parts) (hu : P.underlying t = some (.array n e)) (hz : zeroOf P t = some z) (hie : P.info? e = some ie) (hps : cparts P (virt e ie.size n) parts.toList = some ps)
    {k : V → Eff → List Nm → Prop} :
    Sound P M T d o (.build (zcells d (slicesIn P t) z.cells.toList 0).1 (zcells d (slicesIn P t) z.cells.toList 0).2 ps) k := fun h => by
  obtain ⟨l, h1, h2⟩ := parts_ex hps h
  refine ⟨_, _, _, h1, fun w0 F G M' T' g1 g2 hok a w K Q hR hT hK => ?_⟩
  obtain ⟨G', r1, r2, r3, r4⟩ := rel_nils _ hR hok (zcells_nils slicesIn_pos _ _)
  have hT' : TRel w0 F G' (appN (zcells d (slicesIn P t) z.cells.toList 0).2 M') T' a := ⟨hT.size, hT.defers, fun i x hx => let ⟨v, q1, q2⟩ := hT.tm i x hx; ⟨v, q1, q2.mono r2⟩⟩
  obtain ⟨us, u1, u2⟩ := h2 w0 F G' _ T' a _ g1 hT' (zcells_conc z.cells.toList 0 r3)
  have hz' : ∃ i, P.info? t = some i ∧ i.zero = some z := by
    unfold zeroOf at hz
    cases hi : P.info? t with
    | none => rw [hi] at hz; cases hz
    | some i => rw [hi] at hz; exact ⟨i, rfl, hz⟩
  obtain ⟨i, hi, hiz⟩ := hz'
  have hfill := u2 (fun i => some (i * ie.size, ie.size)) fun i f hf => by
    have hlt : i < n := by
      have := (Array.getElem?_eq_some_iff.1 hf).1
      simpa [virt] using this
    simp [virt, hlt] at hf
    subst hf
    exact ⟨ie, hie, rfl⟩
  have hb := run_build (P := P) w t (parts.map fun p => (p.1, a.eval p.2)) us.toArray (by
    unfold Program.built
    simp only [hi, hu, hiz, hie]
    simpa using hfill)
  refine wp_value (v := .agg us.toArray) (w' := w) ?_ (hK _ _ G' r1 r2 ⟨us.toArray, rfl, by simpa [Eff.app] using u1⟩)
  simp [execOp, ho, hb]

/-- A new array of which the cells are known. -/
theorem rel_fl {n : Nm} {e : TypeId} {sz : Nat} {l : List (List Value)} {vs : Array Value} (h : Rel w0 F G M w) (hn : M n = none) (hsz : 0 < sz) (hl : ∀ r ∈ l, r.length = sz) (h1 : ∀ r ∈ l, ∀ v ∈ r, v.oneCell' = true) (hv : vs.toList = l.flatten) (hm : l.length ≤ maxLen) :
    Rel w0 F (G.set n (.slice (some ⟨w.heap.size, 0, none⟩) l.length l.length)) (M.set n (.fl e sz l)) (w.alloc (.cells vs e)) := by
  have hs : l.flatten.length = l.length * sz := by
    rw [List.length_flatten]
    clear hv hm h1
    induction l with
    | nil => simp
    | cons r l ih =>
      simp only [List.map_cons, List.sum_cons, List.length_cons]
      rw [ih fun x hx => hl x (by simp [hx]), hl r (by simp), Nat.succ_mul]
      omega
  refine h.new hn rfl rfl rfl (by simp) (fun k _ hk => Below.heap_alloc w _ k hk) (fun B hB => by simp [blkOf] at hB; omega) ⟨hsz, hl, h1, ?_, fun B hB hF => ?_⟩
  · rw [← hv]
    exact World.ownsRow_lit w vs l.length (Nat.zero_le _) hm (by rw [← hs, ← hv]; simp)
  · simp [Value.ownBlock] at hB
    have := h.bd _ hF
    have := h.size
    omega
theorem conc_fl {n : Nm} {e : TypeId} {sz : Nat} {l : List (List Value)} {B cap : Nat} (hg : G n = .slice (some ⟨B, 0, none⟩) l.length cap) (hm : M n = some (.fl e sz l)) {len : Nat} (hl : len = l.length) : ConcC w0 F G M (.slc n len) (.slice (some ⟨B, 0, none⟩) l.length cap) := by
  subst hl
  exact ⟨_, sz, l.length, hm, rfl, Nat.le_refl _, ⟨_, _, rfl⟩, fun _ => hg.symm⟩
theorem conc_cs {n : Nm} {e : TypeId} {l : List C} {B cap : Nat} (hg : G n = .slice (some ⟨B, 0, none⟩) l.length cap) (hm : M n = some (.cs e l)) {len : Nat} (hl : len = l.length) : ConcC w0 F G M (.slc n len) (.slice (some ⟨B, 0, none⟩) l.length cap) := by
  subst hl
  exact ⟨_, 1, l.length, hm, rfl, Nat.le_refl _, ⟨_, _, rfl⟩, fun _ => hg.symm⟩
/-- A new array of cells. -/
theorem rel_cs {n : Nm} {e : TypeId} {l : List C} {vs : Array Value} (h : Rel w0 F G M w) (hn : M n = none) (hc : ConcCs w0 F G M l vs.toList) (h1 : ∀ v ∈ vs.toList, v.oneCell' = true) (hm : l.length ≤ maxLen) :
    Rel w0 F (G.set n (.slice (some ⟨w.heap.size, 0, none⟩) l.length l.length)) (M.set n (.cs e l)) (w.alloc (.cells vs e)) := by
  refine h.new hn rfl rfl rfl (by simp) (fun k _ hk => Below.heap_alloc w _ k hk) (fun B hB => by simp [blkOf] at hB; omega) ⟨vs.toList, hc.mono fun x u hx => hx.new hn, h1, ?_, fun B hB hF => ?_⟩
  · exact World.ownsRow_lit w vs l.length (Nat.zero_le _) hm (by have := hc.1; simp at this; simp [this])
  · simp [Value.ownBlock] at hB
    have := h.bd _ hF
    have := h.size
    omega
theorem cellsLK_ex : ∀ {xs : List Operand} {xs' : List Opd} {k : List C → Prop}, copds xs = some xs' → cellsLK T xs' k →
    ∃ l, k l ∧ l.length = xs.length ∧ ∀ w0 F G M T' a, (∀ t, t ∈ xs'.flatMap opdT → T'[t]? = T[t]?) → TRel w0 F G M T' a →
      ConcCs w0 F G M l (xs.map a.eval) ∧ ∀ v ∈ xs.map a.eval, oneV v = true
  | [], xs', k, hc, h => by
    simp [copds] at hc
    subst hc
    exact ⟨_, h, rfl, fun _ _ _ _ _ _ _ _ => ⟨⟨rfl, fun j x hx => by simp at hx⟩, by simp⟩⟩
  | x :: r, xs', k, hc, h => by
    simp only [copds] at hc
    split at hc
    · rename_i y l hx hr
      simp only [Option.some.injEq] at hc
      subst hc
      obtain ⟨u, h1, hv⟩ := evK_ex hx h
      split at h1
      · rename_i c
        obtain ⟨h2, h3⟩ := guardK_iff.1 h1
        obtain ⟨l', h4, h5, h6⟩ := cellsLK_ex hr h3
        refine ⟨_, h4, by simp [h5], fun w0 F G M T' a ht hT => ?_⟩
        have h7 := hv w0 F G M T' a (fun t h => ht t (by simp [h])) hT
        obtain ⟨h8, h9⟩ := h6 w0 F G M T' a (fun t h => ht t (by rw [List.flatMap_cons]; exact List.mem_append_right _ h)) hT
        refine ⟨⟨by simp [h5], fun j z hz => ?_⟩, fun v hv => ?_⟩
        · cases j with
          | zero => simp at hz; subst hz; exact ⟨_, rfl, h7⟩
          | succ j => exact h8.2 j z hz
        · rcases List.mem_cons.1 hv with rfl | hv
          · exact okC_one h2 h7
          · exact h9 v hv
      · exact h1.elim
    · cases hc

theorem rows_ex {sz : Nat} : ∀ {xs : List Operand} {xs' : List Opd} {k : List (List Value) → Prop}, copds xs = some xs' → rowsK T sz xs' k →
    ∃ rows, k rows ∧ rows.length = xs.length ∧ (∀ r ∈ rows, r.length = sz) ∧ ∀ w0 F G M T' a, (∀ t, t ∈ xs'.flatMap opdT → T'[t]? = T[t]?) → TRel w0 F G M T' a →
      (∀ r ∈ rows, ∀ v ∈ r, oneV v = true) ∧ (xs.map fun x => (a.eval x).cells.toList) = rows
  | [], xs', k, hc, h => by
    simp [copds] at hc
    subst hc
    exact ⟨_, h, rfl, by simp, fun _ _ _ _ _ _ _ _ => ⟨by simp, rfl⟩⟩
  | x :: r, xs', k, hc, h => by
    simp only [copds] at hc
    split at hc
    · rename_i y l hx hr
      simp only [Option.some.injEq] at hc
      subst hc
      obtain ⟨u, h1, hv⟩ := evK_ex hx h
      obtain ⟨vs, h2, hl⟩ := valsK_ex h1
      obtain ⟨h3, h4⟩ := guardK_iff.1 h2
      obtain ⟨rows, h5, h6, h7, h8⟩ := rows_ex hr h4
      refine ⟨_, h5, by simp [h6], fun q hq => ?_, fun w0 F G M T' a ht hT => ?_⟩
      · rcases List.mem_cons.1 hq with rfl | hq
        · exact Nat.eq_of_beq_eq_true h3
        · exact h7 q hq
      · obtain ⟨e1, e2⟩ := hl _ _ _ _ _ (hv w0 F G M T' a (fun t h => ht t (by simp [h])) hT)
        obtain ⟨e3, e4⟩ := h8 w0 F G M T' a (fun t h => ht t (by rw [List.flatMap_cons]; exact List.mem_append_right _ h)) hT
        exact ⟨fun q hq => by
          rcases List.mem_cons.1 hq with rfl | hq
          · exact e2
          · exact e3 q hq, by simp [e1, e4]⟩
    · cases hc
theorem copds_length : ∀ {xs : List Operand} {xs' : List Opd}, copds xs = some xs' → xs'.length = xs.length
  | [], xs', h => by simp [copds] at h; subst h; rfl
  | x :: r, xs', h => by
    simp only [copds] at h
    split at h
    · rename_i y l hx hr
      simp only [Option.some.injEq] at h
      subst h
      simp [copds_length hr]
    · cases h

/-- The cells of a slice's literal: each part in its place. -/
theorem fill_rows (sz : Nat) : ∀ (vs : List Value) (i : Nat) (cells : Array Value), (∀ v ∈ vs, v.cells.size = sz) → (i + vs.length) * sz ≤ cells.size →
    Instr.fill (fun i => some (i * sz, sz)) cells ((List.range' i vs.length).zip vs) = some (splice (vs.flatMap fun v => v.cells.toList) cells.toList (i * sz)).toArray
  | [], i, cells, _, _ => by simp [Instr.fill, splice]
  | v :: r, i, cells, h, hs => by
    have hv := h v (by simp)
    have e1 : (i + (r.length + 1)) * sz = i * sz + sz + r.length * sz := by rw [Nat.add_mul, Nat.add_mul]; omega
    simp only [List.length_cons] at hs
    rw [e1] at hs
    simp only [List.length_cons, List.range'_succ, List.zip_cons_cons, Instr.fill]
    rw [if_neg (by simp [hv]; omega), ← Array.foldl_toList, Array.toList_zipIdx, fold_splice]
    have hl : v.cells.toList.length = sz := by simpa using hv
    rw [fill_rows sz r (i + 1) _ (fun u hu => h u (by simp [hu])) (by simp [splice_length]; rw [Nat.add_mul, Nat.add_mul]; omega)]
    simp only [Nat.add_zero, List.flatMap_cons]
    congr 2
    apply List.ext_getElem?
    intro q
    have e2 : (i + 1) * sz = i * sz + sz := by rw [Nat.succ_mul]
    have hr : (r.flatMap fun v => v.cells.toList).length = r.length * sz := by
      clear hs e1 hl hv e2
      induction r with
      | nil => simp
      | cons u r ih =>
        have hu : u.cells.toList.length = sz := by simpa using h u (by simp)
        rw [List.flatMap_cons, List.length_append, ih (fun x hx => by
          rcases List.mem_cons.1 hx with rfl | hx
          · exact h _ (by simp)
          · exact h x (by simp [hx])), hu, List.length_cons, Nat.succ_mul]
        omega
    rw [splice_get _ _ _ _ (.inr (by simp only [splice_length, hr, e2, Array.length_toList]; omega)), splice_get _ _ _ _ (.inr (by simp only [hl, Array.length_toList]; omega)), splice_get _ _ _ _ (.inr (by simp only [List.length_append, hr, hl, Array.length_toList]; omega))]
    simp only [List.length_append, hl, hr, e2]
    by_cases c1 : i * sz + sz ≤ q ∧ q < i * sz + sz + r.length * sz
    · rw [if_pos c1, if_pos (by omega), List.getElem?_append_right (by omega), hl]
      congr 1
      omega
    · rw [if_neg c1]
      by_cases c2 : i * sz ≤ q ∧ q < i * sz + sz
      · rw [if_pos c2, if_pos (by omega), List.getElem?_append_left (by omega)]
      · rw [if_neg c2, if_neg (by omega)]
theorem splice_whole {α : Type} (xs l : List α) (h : xs.length = l.length) : splice xs l 0 = xs := by
  apply List.ext_getElem?
  intro q
  rw [splice_get _ _ _ _ (.inr (by omega))]
  by_cases hq : q < xs.length
  · rw [if_pos (by omega)]; simp
  · rw [if_neg (by omega), List.getElem?_eq_none (by omega), List.getElem?_eq_none (by omega)]
end
end Go.Proofs.Ytfbadfnhnaaeeaa
