/- The abstract machine: what makes memory, stores, appends. -/
import Derived.Test.YtfbadfnhnaaeeaaE6
namespace Go.Proofs.Ytfbadfnhnaaeeaa
set_option linter.unusedSimpArgs false
set_option linter.unusedVariables false
open Go.RowKit

section
variable {P : Program} {w0 : World} {F : Nat → Prop} {G : Gh} {M : Mem} {w : World} {T : List V} {a : Act} {o : Oper} {d : Nat} {K : Act → World → Prop} {Q : Exit → Act → World → Prop}

/-- Names for nil slices. -/
theorem rel_nils : ∀ (l : ML) {G : Gh} {M : Mem}, Rel w0 F G M w → okN l M → (∀ p ∈ l, ∃ e sz, p.2 = .fl e sz [] ∧ 0 < sz) →
    ∃ G', Rel w0 F G' (appN l M) w ∧ (∀ x u, ConcC w0 F G M x u → ConcC w0 F G' (appN l M) x u) ∧ (∀ p ∈ l, G' p.1 = .slice none 0 0 ∧ appN l M p.1 = some p.2) ∧ ∀ n, M n ≠ none → G' n = G n ∧ appN l M n = M n
  | [], G, M, h, _, _ => ⟨G, h, fun _ _ h => h, fun _ hp => (List.not_mem_nil hp).elim, fun _ _ => ⟨rfl, rfl⟩⟩
  | (n, b) :: r, G, M, h, ⟨hn, hr⟩, hb => by
    obtain ⟨e, sz, hb1, hsz⟩ := hb (n, b) (by simp)
    simp only at hb1
    subst hb1
    have h1 : Rel w0 F (G.set n (.slice none 0 0)) (M.set n (.fl e sz [])) w :=
      h.new hn rfl rfl rfl (Nat.le_refl _) (fun _ _ _ => rfl) (fun B hB => by simp [blkOf] at hB)
        ⟨hsz, by simp, by simp, by simpa using World.ownsRow_nil w 0 e sz, fun B hB => by simp [Value.ownBlock] at hB⟩
    obtain ⟨G', h2, h3, h4, h5⟩ := rel_nils r h1 hr (fun p hp => hb p (by simp [hp]))
    refine ⟨G', h2, fun x u hx => h3 _ _ (hx.new hn), fun p hp => ?_, fun m hm => ?_⟩
    · rcases List.mem_cons.1 hp with rfl | hp
      · have := h5 n (by rw [Mem.set_self]; simp)
        rw [Gh.set_self, Mem.set_self] at this
        exact this
      · exact h4 p hp
    · have hne : m ≠ n := fun e => hm (e ▸ hn)
      have := h5 m (by rw [Mem.set_ne _ _ hne]; exact hm)
      rw [Gh.set_ne _ _ hne, Mem.set_ne _ _ hne] at this
      exact this
theorem okN_append : ∀ (l l' : ML) (M : Mem), okN (l ++ l') M ↔ okN l M ∧ okN l' (appN l M)
  | [], _, _ => by simp [okN, appN]
  | (n, b) :: r, l', M => by simp [okN, appN, okN_append r l', and_assoc]
theorem appN_append : ∀ (l l' : ML) (M : Mem), appN (l ++ l') M = appN l' (appN l M)
  | [], _, _ => rfl
  | (n, b) :: r, l', M => by simp [appN, appN_append r l']

theorem zcells_nils {d : Nat} {sl : List (Nat × TypeId × Nat)} (hsl : ∀ p ∈ sl, 0 < p.2.2) : ∀ (l : List Value) (j : Nat), ∀ p ∈ (zcells d sl l j).2, ∃ e sz, p.2 = .fl e sz [] ∧ 0 < sz
  | [], _, p, hp => by simp [zcells] at hp
  | v :: r, j, p, hp => by
    simp only [zcells] at hp
    split at hp
    · rename_i e sz hf
      rcases List.mem_cons.1 hp with rfl | hp
      · exact ⟨_, _, rfl, hsl _ (List.mem_of_find?_eq_some hf)⟩
      · exact zcells_nils hsl r (j + 1) p hp
    · exact zcells_nils hsl r (j + 1) p hp
theorem zcells_conc {d : Nat} {sl : List (Nat × TypeId × Nat)} : ∀ (l : List Value) (j : Nat), (∀ p ∈ (zcells d sl l j).2, G p.1 = .slice none 0 0 ∧ M p.1 = some p.2) → ConcCs w0 F G M (zcells d sl l j).1 l
  | [], j, _ => ⟨rfl, fun j x hx => by simp [zcells] at hx⟩
  | v :: r, j, h => by
    have cons : ∀ (x : C) (cs : List C), ConcC w0 F G M x v → ConcCs w0 F G M cs r → ConcCs w0 F G M (x :: cs) (v :: r) := fun x cs h1 h2 =>
      ⟨by simp [h2.1], fun i y hy => by
        cases i with
        | zero => simp at hy; subst hy; exact ⟨v, rfl, h1⟩
        | succ i => exact h2.2 i y hy⟩
    simp only [zcells] at h ⊢
    split
    · rename_i e sz hv hf
      simp only [hv, hf] at h
      have hvn : v = .slice none 0 0 := by
        unfold isNilS at hv
        split at hv
        · rfl
        · cases hv
      obtain ⟨h1, h2⟩ := h _ (List.mem_cons_self ..)
      refine cons _ _ ⟨_, sz, 0, h2, rfl, by simp, ⟨none, 0, hvn⟩, fun _ => by rw [h1]; exact hvn⟩ (zcells_conc r (j + 1) fun p hp => h p (List.mem_cons_of_mem _ hp))
    · rename_i hno
      refine cons _ _ rfl (zcells_conc r (j + 1) fun p hp => h p ?_)
      split
      · exact (hno _ _ _ (by assumption) (by assumption)).elim
      · exact hp
theorem slicesIn_pos {t : TypeId} : ∀ p ∈ slicesIn P t, 0 < p.2.2 := by
  intro p hp
  unfold slicesIn at hp
  split at hp
  · simp only [List.mem_filterMap] at hp
    obtain ⟨f, _, hf⟩ := hp
    split at hf
    · split at hf
      · split at hf
        · cases hf; assumption
        · cases hf
      · cases hf
    · cases hf
  · split at hp
    · split at hp
      · simp at hp; subst hp; assumption
      · simp at hp
    · simp at hp
  · simp at hp

/-- A box under a new name. -/
theorem rel_box {n : Nm} {l : List C} {vs : Array Value} {t : TypeId} (h : Rel w0 F G M w) (hn : M n = none) (hc : ConcCs w0 F G M l vs.toList) :
    Rel w0 F (G.set n (.pointer (some ⟨w.heap.size, 0, none⟩))) (M.set n (.bx l)) (w.alloc (.cells vs t)) :=
  h.new hn rfl rfl rfl (by simp) (fun k _ hk => Below.heap_alloc w _ k hk) (fun B hB => by simp [blkOf] at hB; omega)
    ⟨w.heap.size, vs, t, rfl, fun hF => by have := h.bd _ hF; have := h.size; omega, heap_alloc_new w _, hc.mono fun x u hx => hx.new hn⟩

theorem sound_nilS {t e : TypeId} {x : Operand} {i : TypeInfo} (ho : o.op = .move x ∨ o.op = .assign x) (hx : x = .const (.slice none 0 0)) (hsz : 0 < i.size) {k : V → Eff → List Nm → Prop} : Sound P M T d o (.nilS e i.size) k := fun h => by
  refine ⟨_, _, _, h, fun w0 F G M' T' _ _ hok a w K Q hR hT hK => ?_⟩
  obtain ⟨G', h1, h2, h3, _⟩ := rel_nils [((d, 0), .fl e i.size [])] hR hok (fun p hp => by simp at hp; subst hp; exact ⟨_, _, rfl, hsz⟩)
  obtain ⟨h4, h5⟩ := h3 ((d, 0), .fl e i.size []) (by simp)
  refine wp_value (v := .slice none 0 0) (w' := w) ?_ (hK _ _ G' h1 h2 ⟨_, _, 0, h5, rfl, by simp, ⟨none, 0, rfl⟩, fun _ => h4.symm⟩)
  subst hx
  rcases ho with ho | ho <;> simp [execOp, ho, Act.eval]

theorem sound_nilC {e : TypeId} {x : Operand} (ho : o.op = .move x ∨ o.op = .assign x) (hx : x = .const (.slice none 0 0)) {k : V → Eff → List Nm → Prop} : Sound P M T d o (.nilC e) k := fun h => by
  refine ⟨_, _, _, h, fun w0 F G M' T' _ _ hok a w K Q hR hT hK => ?_⟩
  have h1 : Rel w0 F (G.set (d, 0) (.slice none 0 0)) (M'.set (d, 0) (.cs e [])) w :=
    hR.new hok.1 rfl rfl rfl (Nat.le_refl _) (fun _ _ _ => rfl) (fun B hB => by simp [blkOf] at hB)
      ⟨[], ⟨rfl, fun j x hx => by simp at hx⟩, by simp, by simpa using World.ownsRow_nil w 0 e 1, fun B hB => by simp [Value.ownBlock] at hB⟩
  refine wp_value (v := .slice none 0 0) (w' := w) ?_ (hK _ _ _ h1 (fun x u hx => hx.new hok.1) ⟨_, 1, 0, Mem.set_self _ _ _, rfl, by simp, ⟨none, 0, rfl⟩, fun _ => (Gh.set_self _ _ _).symm⟩)
  subst hx
  rcases ho with ho | ho <;> simp [execOp, ho, Act.eval]

theorem sound_alloc {t : TypeId} {z : Value} (ho : o.op = .alloc t) (hz : zeroOf P t = some z) {k : V → Eff → List Nm → Prop} :
    Sound P M T d o (.alloc (zcells d (slicesIn P t) z.cells.toList 0).1 (zcells d (slicesIn P t) z.cells.toList 0).2) k := fun h => by
  refine ⟨_, _, _, h, fun w0 F G M' T' _ _ hok a w K Q hR hT hK => ?_⟩
  obtain ⟨ok1, ok2, _⟩ := (okN_append _ _ _).1 hok
  obtain ⟨G', h1, h2, h3, h4⟩ := rel_nils _ hR ok1 (zcells_nils slicesIn_pos _ _)
  have h5 := rel_box (t := t) (vs := z.cells) h1 ok2 (by simpa using zcells_conc (w0 := w0) (F := F) (G := G') z.cells.toList 0 h3)
  have hz' : ∃ i, P.info? t = some i ∧ i.zero = some z := by
    unfold zeroOf at hz
    cases hi : P.info? t with
    | none => rw [hi] at hz; cases hz
    | some i => rw [hi] at hz; exact ⟨i, rfl, hz⟩
  obtain ⟨i, hi, hiz⟩ := hz'
  have e : Eff.app (.new ((zcells d (slicesIn P t) z.cells.toList 0).2 ++ [((d, 0), .bx (zcells d (slicesIn P t) z.cells.toList 0).1)])) M' = (appN (zcells d (slicesIn P t) z.cells.toList 0).2 M').set (d, 0) (.bx (zcells d (slicesIn P t) z.cells.toList 0).1) := by
    simp [Eff.app, appN_append, appN]
  refine wp_value (v := .pointer (some ⟨w.heap.size, 0, none⟩)) (w' := w.alloc (.cells z.cells t)) ?_ (hK _ _ _ (by rw [e]; exact h5) (fun x u hx => by rw [e]; exact (h2 _ _ hx).new ok2) ?_)
  · simp [execOp, ho, Instr.alloc, zeroValue, typeInfo, hi, hiz, newVar, newRow]
  · rw [e]; exact ⟨w.heap.size, Gh.set_self _ _ _, rfl, _, Mem.set_self _ _ _⟩

theorem sound_box {t : TypeId} {x : Operand} {x' : Opd} (ho : o.op = .box t x) (hx : copd x = some x') {k : V → Eff → List Nm → Prop} : Sound P M T d o (.box x') k := fun h => by
  obtain ⟨u, h1, hv⟩ := evK_ex hx h
  obtain ⟨l, h2, hl⟩ := cellsK_ex h1
  refine ⟨_, _, _, h2, fun w0 F G M' T' g1 g2 hok a w K Q hR hT hK => ?_⟩
  have hc := (hl _ _ _ _ _ (hv w0 F G M' T' a g1 hT)).1
  have h5 := rel_box (t := t) (vs := (a.eval x).cells) hR hok.1 hc
  refine wp_value (v := .pointer (some ⟨w.heap.size, 0, none⟩)) (w' := w.alloc (.cells (a.eval x).cells t)) ?_ (hK _ _ _ h5 (fun x u hx => hx.new hok.1) ⟨w.heap.size, Gh.set_self _ _ _, rfl, _, Mem.set_self _ _ _⟩)
  simp [execOp, ho, Instr.box, newVar, newRow]

/-! ### structs and slices out of parts -/
theorem fold_splice (off : Nat) : ∀ (xs : List Value) (k : Nat) (cells : Array Value), (xs.zipIdx k).foldl (fun cs (p : Value × Nat) => cs.setIfInBounds (off + p.2) p.1) cells = (splice xs cells.toList (off + k)).toArray
  | [], k, cells => by simp [splice]
  | x :: xs, k, cells => by
    simp only [List.zipIdx_cons, List.foldl_cons, splice]
    rw [fold_splice off xs (k + 1)]
    simp [Nat.add_assoc]
theorem parts_ex {fs : Array Field} : ∀ {ps : List (Nat × Operand)} {ps' : List (Nat × Option Nat × Opd)} {cells : List C} {k : List C → Prop}, cparts P fs ps = some ps' → partsK T ps' cells k →
    ∃ l, k l ∧ ∀ w0 F G M T' a zs, (∀ t, t ∈ ps'.flatMap (fun p => opdT p.2.2) → T'[t]? = T[t]?) → TRel w0 F G M T' a → ConcCs w0 F G M cells zs →
      ∃ us : List Value, ConcCs w0 F G M l us ∧ ∀ (place : Nat → Option (Nat × Nat)), (∀ i f, fs[i]? = some f → ∃ j, P.info? f.type = some j ∧ place i = some (f.offset, j.size)) → Instr.fill place zs.toArray (ps.map fun p => (p.1, a.eval p.2)) = some us.toArray
  | [], ps', cells, k, hc, h => by
    simp [cparts] at hc
    subst hc
    exact ⟨_, h, fun w0 F G M T' a zs _ _ hz => ⟨zs, hz, fun _ _ => rfl⟩⟩
  | (i, x) :: r, ps', cells, k, hc, h => by
    simp only [cparts] at hc
    split at hc
    · rename_i f y l hf hx hr
      split at hc
      · cases hc
      · rename_i s hs0 hs
        simp only [Option.some.injEq] at hc
        subst hc
        obtain ⟨u, h1, hv⟩ := evK_ex hx h
        obtain ⟨cs, h2, hl⟩ := cellsK_ex h1
        obtain ⟨h3, h4⟩ := guardK_iff.1 h2
        obtain ⟨h5, h6⟩ := spliceK_iff.1 h4
        obtain ⟨l', h7, h8⟩ := parts_ex hr h6
        refine ⟨l', h7, fun w0 F G M T' a zs ht hT hz => ?_⟩
        have hc1 := (hl _ _ _ _ _ (hv w0 F G M T' a (fun t h => ht t (by simp [h])) hT)).1
        have hz2 := hz.splice hc1 f.offset h5
        obtain ⟨us, h9, h10⟩ := h8 w0 F G M T' a _ (fun t h => ht t (by rw [List.flatMap_cons]; exact List.mem_append_right _ h)) hT hz2
        refine ⟨us, h9, fun place hp => ?_⟩
        obtain ⟨j, hj, hpl⟩ := hp i f hf
        have hsize : (a.eval x).cells.size = j.size := by
          have e : (a.eval x).cells.size = cs.length := by simpa using hc1.1
          rw [e]
          unfold csize at hs
          rw [hj] at hs
          cases hu : P.underlying f.type with
          | none => rw [hu] at hs; simp at hs
          | some td =>
            rw [hu] at hs
            have one : (if j.size = 1 then some none else none : Option (Option Nat)) = some s → cs.length = j.size := fun h => by
              split at h
              · cases h
                have := Nat.eq_of_beq_eq_true h3
                omega
              · cases h
            cases td with
            | struct _ => simp only [Option.some.injEq] at hs; subst hs; exact Nat.eq_of_beq_eq_true h3
            | array _ _ => simp only [Option.some.injEq] at hs; subst hs; exact Nat.eq_of_beq_eq_true h3
            | _ => exact one hs
        have hne : cs ≠ [] := fun e => by
          subst e
          unfold sizeB at h3
          split at h3
          · cases h3
          · rename_i m
            have : 0 = m := Nat.eq_of_beq_eq_true h3
            subst this
            exact hs0 rfl
        have hlen : ¬ (f.offset + (a.eval x).cells.size > zs.toArray.size) := by
          rcases h5 with h5 | h5
          · exact absurd h5 hne
          · have e1 : (a.eval x).cells.size = cs.length := by simpa using hc1.1
            have e2 := hz.1
            simp only [List.size_toArray]
            omega
        have e := h10 place hp
        simp only [List.map_cons, Instr.fill, hpl]
        rw [if_neg (by simp [hsize] at hlen ⊢; omega)]
        rw [← Array.foldl_toList, Array.toList_zipIdx, fold_splice]
        exact e
      · cases hc
    · cases hc
end
end Go.Proofs.Ytfbadfnhnaaeeaa
