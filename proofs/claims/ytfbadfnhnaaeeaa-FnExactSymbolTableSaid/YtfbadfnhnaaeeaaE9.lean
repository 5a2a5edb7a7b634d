/- The abstract machine: slices written out, stores, appends, make, calls. -/
import Derived.Test.YtfbadfnhnaaeeaaE8
namespace Go.Proofs.Ytfbadfnhnaaeeaa
set_option linter.unusedSimpArgs false
set_option linter.unusedVariables false
open Go.RowKit

section
variable {P : Program} {w0 : World} {F : Nat → Prop} {G : Gh} {M : Mem} {w : World} {T : List V} {a : Act} {o : Oper} {d : Nat} {K : Act → World → Prop} {Q : Exit → Act → World → Prop}

theorem sound_bslice {t e : TypeId} {len : Nat} {parts : Array (Nat × Operand)} {xs : List Opd} {i : TypeInfo} {z : Value} (ho : o.op = .buildSlice t len parts) (hu : P.underlying t = some (.slice e)) (hi : P.info? e = some i) (hz : i.zero = some z) (hzs : z.cells.size = i.size) (hsz : 0 < i.size)
    (hp : parts.toList.map (·.1) = List.range len) (hbig : len * i.size ≤ 2 ^ 24) (hx : copds (parts.toList.map (·.2)) = some xs) {k : V → Eff → List Nm → Prop} : Sound P M T d o (.bslice e i.size xs) k := fun h => by
  obtain ⟨rows, h1, h2, h3, h4⟩ := rows_ex hx h
  refine ⟨_, _, _, h1, fun w0 F G M' T' g1 g2 hok a w K Q hR hT hK => ?_⟩
  obtain ⟨h5, h6⟩ := h4 w0 F G M' T' a g1 hT
  have hlen : rows.length = len := by
    rw [h2, List.length_map, ← List.length_map (f := (·.1)), hp, List.length_range]
  have hxl : xs.length = len := by rw [copds_length hx, ← h2, hlen]
  have hvs : ∀ v ∈ (parts.toList.map (·.2)).map a.eval, v.cells.size = i.size := fun v hv => by
    obtain ⟨x, hx1, rfl⟩ := List.mem_map.1 hv
    have : (a.eval x).cells.toList ∈ rows := by rw [← h6]; exact List.mem_map.2 ⟨x, hx1, rfl⟩
    simpa using h3 _ this
  have hzip : (parts.map fun p => (p.1, a.eval p.2)).toList = (List.range' 0 ((parts.toList.map (·.2)).map a.eval).length).zip ((parts.toList.map (·.2)).map a.eval) := by
    have e1 : ((parts.toList.map (·.2)).map a.eval).length = len := by rw [List.length_map, ← h2, hlen]
    rw [e1, ← List.range_eq_range', ← hp]
    simp only [Array.toList_map, List.map_map]
    rw [List.zip_map']
    rfl
  have hflat : ((parts.toList.map (·.2)).map a.eval).flatMap (fun v => v.cells.toList) = rows.flatten := by
    rw [← h6, List.flatMap_map]; rfl
  have hfl : rows.flatten.length = len * i.size := by
    rw [List.length_flatten, ← hlen]
    clear hflat hzip hvs hxl hlen h6 h5 h4 h2 h1 hK hok
    induction rows with
    | nil => simp
    | cons r l ih =>
      simp only [List.map_cons, List.sum_cons, List.length_cons]
      rw [ih fun x hx => h3 x (by simp [hx]), h3 r (by simp), Nat.succ_mul]
      omega
  have hfill := fill_rows i.size ((parts.toList.map (·.2)).map a.eval) 0 ((Array.range (len * i.size)).map fun q => (if len * i.size = 0 then #[] else z.cells)[q % (if len * i.size = 0 then #[] else z.cells).size]!) hvs (by simp only [Array.size_map, Array.size_range]; rw [Nat.zero_add, List.length_map, ← h2, hlen]; exact Nat.le_refl _)
  rw [← hzip, hflat, Nat.zero_mul, splice_whole _ _ (by simp [hfl])] at hfill
  have hm : rows.length ≤ maxLen := by
    have : rows.length ≤ rows.length * i.size := Nat.le_mul_of_pos_right _ hsz
    rw [hlen] at this ⊢
    simp only [maxLen]
    omega
  have h7 := rel_fl (e := e) (vs := rows.flatten.toArray) hR hok.1 hsz h3 (fun r hr v hv => oneV_cell (h5 r hr v hv)) (by simp) hm
  refine wp_value (v := .slice (some ⟨w.heap.size, 0, none⟩) rows.length rows.length) (w' := w.alloc (.cells rows.flatten.toArray e)) ?_ (hK _ _ _ h7 (fun x u hx => hx.new hok.1) (conc_fl (w0 := w0) (F := F) (Gh.set_self _ _ _) (Mem.set_self _ _ _) (by rw [hxl, hlen])))
  simp only [execOp, ho, Instr.buildSlice, Sem.run_bind, run_underlying hu, Result.andThen_ok, sizeOf, typeInfo, hi, run_program, Sem.run_pure, hlen]
  rw [if_neg (by omega)]
  by_cases h0 : len * i.size = 0
  · simp only [if_pos h0] at hfill
    rw [if_pos h0]
    simp only [Sem.run_pure, Sem.run_bind, Result.andThen_ok, hfill, newRow, run_newObj]
    rfl
  · simp only [if_neg h0] at hfill
    rw [if_neg h0]
    simp only [Sem.run_pure, Sem.run_bind, Result.andThen_ok, zeroValue, typeInfo, run_program, hi, hz, hfill, newRow, run_newObj]
    rfl

theorem sound_bsliceC {t e : TypeId} {len : Nat} {parts : Array (Nat × Operand)} {xs : List Opd} {i : TypeInfo} {z : Value} (ho : o.op = .buildSlice t len parts) (hu : P.underlying t = some (.slice e)) (hi : P.info? e = some i) (hz : i.zero = some z) (hzs : z.cells.size = i.size) (hsz : i.size = 1)
    (hp : parts.toList.map (·.1) = List.range len) (hbig : len * i.size ≤ 2 ^ 24) (hx : copds (parts.toList.map (·.2)) = some xs) {k : V → Eff → List Nm → Prop} : Sound P M T d o (.bsliceC e xs) k := fun h => by
  obtain ⟨l, h1, h2, h4⟩ := cellsLK_ex hx h
  refine ⟨_, _, _, h1, fun w0 F G M' T' g1 g2 hok a w K Q hR hT hK => ?_⟩
  obtain ⟨h5, h6⟩ := h4 w0 F G M' T' a g1 hT
  have hlen : l.length = len := by
    rw [h2, List.length_map, ← List.length_map (f := (·.1)), hp, List.length_range]
  have hxl : xs.length = len := by rw [copds_length hx, ← h2, hlen]
  have one : ∀ v ∈ (parts.toList.map (·.2)).map a.eval, v.cells = #[v] := fun v hv => oneV_cells (h6 v hv)
  have hvs : ∀ v ∈ (parts.toList.map (·.2)).map a.eval, v.cells.size = i.size := fun v hv => by rw [one v hv, hsz]; rfl
  have hzip : (parts.map fun p => (p.1, a.eval p.2)).toList = (List.range' 0 ((parts.toList.map (·.2)).map a.eval).length).zip ((parts.toList.map (·.2)).map a.eval) := by
    have e1 : ((parts.toList.map (·.2)).map a.eval).length = len := by rw [List.length_map, ← h2, hlen]
    rw [e1, ← List.range_eq_range', ← hp]
    simp only [Array.toList_map, List.map_map]
    rw [List.zip_map']
    rfl
  have hflat : ((parts.toList.map (·.2)).map a.eval).flatMap (fun v => v.cells.toList) = (parts.toList.map (·.2)).map a.eval := by
    have : ∀ l : List Value, (∀ v ∈ l, v.cells = #[v]) → l.flatMap (fun v => v.cells.toList) = l := by
      intro l
      induction l with
      | nil => intro _; rfl
      | cons v r ih => intro h; rw [List.flatMap_cons, h v (by simp), ih fun u hu => h u (by simp [hu])]; rfl
    exact this _ one
  have hfl : ((parts.toList.map (·.2)).map a.eval).length = len * i.size := by rw [h5.1, hlen, hsz, Nat.mul_one]
  have hfill := fill_rows i.size ((parts.toList.map (·.2)).map a.eval) 0 ((Array.range (len * i.size)).map fun q => (if len * i.size = 0 then #[] else z.cells)[q % (if len * i.size = 0 then #[] else z.cells).size]!) hvs (by simp only [Array.size_map, Array.size_range]; rw [Nat.zero_add, List.length_map, ← h2, hlen]; exact Nat.le_refl _)
  rw [← hzip, hflat, Nat.zero_mul, splice_whole _ _ (by rw [hfl]; simp)] at hfill
  have hm : l.length ≤ maxLen := by
    rw [hlen]
    rw [hsz] at hbig
    simp only [maxLen]
    omega
  have h7 := rel_cs (e := e) (vs := ((parts.toList.map (·.2)).map a.eval).toArray) hR hok.1 (by simpa using h5) (fun v hv => oneV_cell (h6 v (by simpa using hv))) hm
  refine wp_value (v := .slice (some ⟨w.heap.size, 0, none⟩) l.length l.length) (w' := w.alloc (.cells ((parts.toList.map (·.2)).map a.eval).toArray e)) ?_ (hK _ _ _ h7 (fun x u hx => hx.new hok.1) (conc_cs (w0 := w0) (F := F) (Gh.set_self _ _ _) (Mem.set_self _ _ _) (by rw [hxl, hlen])))
  simp only [execOp, ho, Instr.buildSlice, Sem.run_bind, run_underlying hu, Result.andThen_ok, sizeOf, typeInfo, hi, run_program, Sem.run_pure, hlen]
  rw [if_neg (by omega)]
  by_cases h0 : len * i.size = 0
  · simp only [if_pos h0] at hfill
    rw [if_pos h0]
    simp only [Sem.run_pure, Sem.run_bind, Result.andThen_ok, hfill, newRow, run_newObj]
    rfl
  · simp only [if_neg h0] at hfill
    rw [if_neg h0]
    simp only [Sem.run_pure, Sem.run_bind, Result.andThen_ok, zeroValue, typeInfo, run_program, hi, hz, hfill, newRow, run_newObj]
    rfl

theorem splice_eq {α : Type} (xs l : List α) (j : Nat) (h : j + xs.length ≤ l.length) : splice xs l j = l.take j ++ xs ++ l.drop (j + xs.length) := by
  apply List.ext_getElem?
  intro q
  rw [splice_get _ _ _ _ (.inr h)]
  have ht : (l.take j).length = j := by rw [List.length_take]; omega
  by_cases c : q < j
  · rw [if_neg (by omega), List.append_assoc, List.getElem?_append_left (by omega), List.getElem?_take, if_pos c]
  · by_cases c2 : q < j + xs.length
    · rw [if_pos (by omega), List.append_assoc, List.getElem?_append_right (by omega), ht, List.getElem?_append_left (by omega)]
    · rw [if_neg (by omega), List.getElem?_append_right (by simp; omega), List.getElem?_drop]
      congr 1
      simp
      omega

theorem flat_div {l : List (List Value)} {sz : Nat} (hsz : 0 < sz) (hl : ∀ r ∈ l, r.length = sz) (q : Nat) : l.flatten[q]? = (l[q / sz]?).bind (·[q % sz]?) := by
  cases h : l[q / sz]? with
  | some r =>
    have := flat_get hl h (Nat.mod_lt q hsz)
    rw [Nat.mul_comm, Nat.div_add_mod] at this
    exact this
  | none =>
    have h1 : l.length ≤ q / sz := by simpa using h
    have h2 : l.flatten.length = l.length * sz := by
      rw [List.length_flatten]
      clear h h1
      induction l with
      | nil => simp
      | cons r l ih =>
        simp only [List.map_cons, List.sum_cons, List.length_cons]
        rw [ih fun x hx => hl x (by simp [hx]), hl r (by simp), Nat.succ_mul]
        omega
    have h3 : l.length * sz ≤ q := Nat.le_trans (Nat.mul_le_mul_right sz h1) (by rw [Nat.mul_comm]; exact Nat.mul_div_le q sz)
    simp [List.getElem?_eq_none, h2, h3]

/-- One row turned, in the flat list. -/
theorem flat_set {l : List (List Value)} {sz i j : Nat} {es ys : List Value} (hsz : 0 < sz) (hl : ∀ r ∈ l, r.length = sz) (hi : l[i]? = some es) (hj : j + ys.length ≤ sz) : (l.set i (splice ys es j)).flatten = splice ys l.flatten (i * sz + j) := by
  have hm := hl es (List.mem_of_getElem? hi)
  have hil : i < l.length := (List.getElem?_eq_some_iff.1 hi).1
  have hl' : ∀ r ∈ l.set i (splice ys es j), r.length = sz := fun r hr => by
    rcases List.mem_or_eq_of_mem_set hr with hr | rfl
    · exact hl r hr
    · rw [splice_length]; exact hm
  have hfl : i * sz + sz ≤ l.flatten.length := by
    have := flat_div hsz hl (i * sz + (sz - 1))
    rw [show (i * sz + (sz - 1)) / sz = i by rw [Nat.mul_comm, Nat.mul_add_div hsz, Nat.div_eq_of_lt (by omega)]; omega, hi, show (i * sz + (sz - 1)) % sz = sz - 1 by rw [Nat.mul_comm, Nat.mul_add_mod]; exact Nat.mod_eq_of_lt (by omega)] at this
    simp only [Option.bind_some] at this
    rw [List.getElem?_eq_getElem (show sz - 1 < es.length by omega)] at this
    have := (List.getElem?_eq_some_iff.1 this).1
    omega
  apply List.ext_getElem?
  intro q
  rw [flat_div hsz hl', splice_get _ _ _ _ (.inr (by omega)), flat_div hsz hl, List.getElem?_set]
  by_cases c : i = q / sz
  · rw [if_pos c, if_pos (by omega), ← c, hi]
    simp only [Option.bind_some]
    rw [splice_get _ _ _ _ (.inr (by omega))]
    have hq : q = i * sz + q % sz := by rw [c, Nat.mul_comm]; exact (Nat.div_add_mod q sz).symm
    have hlt := Nat.mod_lt q hsz
    by_cases c2 : j ≤ q % sz ∧ q % sz < j + ys.length
    · rw [if_pos c2, if_pos (by omega)]
      congr 1
      omega
    · rw [if_neg c2, if_neg (by omega)]
  · rw [if_neg c]
    have : ¬ (i * sz + j ≤ q ∧ q < i * sz + j + ys.length) := fun h => c (by
      have h1 : q = sz * i + (q - sz * i) := by rw [Nat.mul_comm]; omega
      rw [h1, Nat.mul_add_div hsz, Nat.div_eq_of_lt (by rw [Nat.mul_comm]; omega)]
      omega)
    rw [if_neg this]
theorem splice_take {α : Type} (xs l : List α) (j m : Nat) (h1 : j + xs.length ≤ m) (h2 : m ≤ l.length) : (splice xs l j).take m = splice xs (l.take m) j := by
  apply List.ext_getElem?
  intro q
  rw [List.getElem?_take, splice_get _ _ _ _ (.inr (by omega)), splice_get _ _ _ _ (.inr (by simp; omega)), List.getElem?_take]
  by_cases c : q < m
  · simp only [if_pos c]
  · simp only [if_neg c]
    rw [if_neg (by omega)]

/-- A store of known cells into a row. -/
theorem run_store_row {t : TypeId} {s : Option Nat} (hs : csize P t = some s) {B j : Nat} {c : Array Value} {ety : TypeId} {v : Value} (hg : w.heap[B]? = some (.cells c ety (0, 0))) (hv : v.cells.size = s.getD 1) (h1 : ∀ x ∈ v.cells.toList, x.oneCell' = true) (hj : j + v.cells.size ≤ c.size) :
    (Instr.storeAt t (.pointer (some ⟨B, j, none⟩)) v).run P w = .ok () (w.setRow B (splice v.cells.toList c.toList j).toArray) := by
  obtain ⟨i, hi, his⟩ := csize_info hs
  have hst := run_storeCells_at (P := P) B j ety v.cells.toList 0 c w hg (by simpa using hj) h1
  rw [splice_eq _ _ _ (by simpa using hj)]
  have hne : ¬ (v.cells.size ≠ i.size) := by rw [his, hv]; simp
  simp only [Instr.storeAt, Instr.sureAddr, Sem.run_bind, Sem.run_pure, Result.andThen_ok, storeVar, sizeOf, typeInfo, run_program, hi, hv, his]
  rw [if_neg (by simp)]
  simp only [Nat.add_zero, Array.length_toList] at hst ⊢
  exact hst

theorem Turns_same {e : TypeId} {sz : Nat} {l l' : List (List Value)} {g : Value} (h : l'.length = l.length) : Turns (.fl e sz l) (.fl e sz l') g g := ⟨rfl, rfl, by omega, fun _ => rfl⟩
theorem Conc_undef : ConcV w0 F G M (.c (.pv undef)) undef := rfl

theorem sound_store {t : TypeId} {x y : Operand} {x' y' : Opd} {s : Option Nat} (ho : o.op = .store t x y) (hs : csize P t = some s) (hs0 : s ≠ some 0) (hx : copd x = some x') (hy : copd y = some y') {k : V → Eff → List Nm → Prop} : Sound P M T d o (.store s x' y') k := fun h => by
  obtain ⟨u, h0, hv⟩ := evK_ex hx h
  have run : ∀ (a : Act) (w w' : World) (g v : Value), a.eval x = g → a.eval y = v → (Instr.storeAt t g v).run P w = .ok () w' → (execOp a.eval o).run P w = .ok .skip w' := fun a w w' g v e1 e2 hr => by simp [execOp, ho, e1, e2, hr]
  match u, h0 with
  | .c (.ptr n j), ⟨.bx l, hn, h⟩ =>
    obtain ⟨u2, h1, hv2⟩ := evK_ex hy h
    obtain ⟨ys, h2, hys⟩ := cellsK_ex h1
    obtain ⟨h3, h4⟩ := guardK_iff.1 h2
    obtain ⟨h5, h6⟩ := spliceK_iff.1 h4
    have hlen := sizeB_eq h3
    refine ⟨_, _, _, h6, fun w0 F G M' T' g1 g2 hok a w K Q hR hT hK => ?_⟩
    have hn' := (g2 n (by simp)).trans hn
    obtain ⟨B, e1, e2, _⟩ := hv w0 F G M' T' a (fun q hq => g1 q (by simp [tmpsA, hq])) hT
    have hyv := hv2 w0 F G M' T' a (fun q hq => g1 q (by simp [tmpsA, hq])) hT
    obtain ⟨c1, c2⟩ := hys _ _ _ _ _ hyv
    obtain ⟨B', c, ety, e3, e4, e5, e6⟩ := hR.bx hn'
    obtain rfl : B' = B := by rw [e1] at e3; simpa using e3.symm
    have csz : (a.eval y).cells.size = ys.length := by simpa using c1.1
    have hfit : j + (a.eval y).cells.size ≤ c.size := by
      have := e6.1
      simp at this
      rcases h5 with rfl | h5
      · exfalso
        cases s with
        | none => simp at hlen
        | some m => simp at hlen; exact hs0 (by rw [← hlen])
      · omega
    have hrun := run_store_row hs e5 (by rw [csz, hlen]) (fun q hq => oneV_cell (c2 q hq)) hfit
    refine wp_skip' (run a w _ _ _ e2 rfl hrun) (hK _ _ _ (hR.upd hn' (g' := G n) rfl rfl rfl rfl (by simp) (fun q hq _ => setRow_other w B' q _ (fun e => hq (by rw [e1, e]; rfl))) (fun B hB => .inl hB) ?_) (fun x u hx => hx.upd (b' := .bx (splice ys l j)) (g' := G n) hn' rfl) Conc_undef)
    refine ⟨B', _, ety, e1, e4, setRow_heap w B' c _ ety _ e5, ?_⟩
    have := (e6.mono fun x u hx => hx.upd (b' := .bx (splice ys l j)) hn' (g' := G n) rfl).splice (c1.mono fun x u hx => hx.upd (b' := .bx (splice ys l j)) hn' (g' := G n) rfl) j h5
    simpa using this
  | .c (.eptr n len i j), ⟨.fl e sz l, hn, h⟩ =>
    obtain ⟨u2, h1, hv2⟩ := evK_ex hy h
    obtain ⟨ys, h2, hys⟩ := valsK_ex h1
    obtain ⟨h3, h4⟩ := guardK_iff.1 h2
    obtain ⟨hl, es, hes, h4⟩ := h4
    obtain ⟨h5, h6⟩ := spliceK_iff.1 h4
    have hlen := sizeB_eq h3
    refine ⟨_, _, _, h6, fun w0 F G M' T' g1 g2 hok a w K Q hR hT hK => ?_⟩
    have hn' := (g2 n (by simp)).trans hn
    obtain ⟨b', sz', L', q1, q0, q2, q3, q4⟩ := hv w0 F G M' T' a (fun q hq => g1 q (by simp [tmpsA, hq])) hT
    rw [hn'] at q1
    obtain rfl := Option.some.inj q1
    simp only [arrB, Option.some.injEq, Prod.mk.injEq] at q0
    obtain ⟨rfl, rfl⟩ := q0
    obtain ⟨B, m, cap, q5, q6⟩ := q4 hl
    have hyv := hv2 w0 F G M' T' a (fun q hq => g1 q (by simp [tmpsA, hq])) hT
    obtain ⟨c1, c2⟩ := hys _ _ _ _ _ hyv
    obtain ⟨f1, f2, f3, f4, f5⟩ := hR.fl hn'
    have hm := f2 es (List.mem_of_getElem? hes)
    have hil : i < l.length := (List.getElem?_eq_some_iff.1 hes).1
    have hne : ys ≠ [] := fun e => by
      subst e
      cases s with
      | none => simp at hlen
      | some m => simp at hlen; exact hs0 (by rw [← hlen])
    have h5' : j + ys.length ≤ sz := by
      rcases h5 with h5 | h5
      · exact absurd h5 hne
      · omega
    have hrow : i * sz + sz ≤ l.length * sz := by
      have := Nat.mul_le_mul_right sz (show i + 1 ≤ l.length from hil)
      rw [Nat.succ_mul] at this
      exact this
    rcases f4.2 with ⟨r1, r2⟩ | ⟨B', cap', cur, r1, r2, r3, r4, r5, r6, r7⟩
    · omega
    · rw [r1] at q5
      simp at q5
      obtain ⟨rfl, rfl, rfl⟩ := q5
      have hcap : l.length * sz ≤ cap' * sz := Nat.mul_le_mul_right _ r4
      have csz : (a.eval y).cells.size = ys.length := by rw [← c1]; simp
      have hrun := run_store_row (j := i * sz + j) hs r3 (by rw [csz, hlen]) (fun q hq => oneV_cell (c2 q (by rw [c1] at hq; exact hq))) (by rw [csz, r6]; omega)
      rw [c1] at hrun
      refine wp_skip' (run a w _ _ _ q6 rfl hrun) (hK _ _ _ (hR.upd (b' := .fl e sz (l.set i (splice ys es j))) hn' (g' := G n) (Turns_same (by simp)) rfl rfl rfl (by simp) (fun q hq _ => setRow_other w B' q _ (fun e => hq (by rw [r1, e]; rfl))) (fun B hB => .inl hB) ?_) (fun x u hx => hx.upd (b' := .fl e sz (l.set i (splice ys es j))) (g' := G n) hn' (Turns_same (by simp))) Conc_undef)
      have hset : ∀ r ∈ l.set i (splice ys es j), r = splice ys es j ∨ r ∈ l := fun r hr => (List.mem_or_eq_of_mem_set hr).symm
      refine ⟨f1, fun r hr => ?_, fun r hr v hv => ?_, ⟨?_, .inr ⟨B', cap', _, by rw [r1]; simp, r2, setRow_heap w B' cur _ e (0, 0) r3, by simpa using r4, r5, ?_, ?_⟩⟩, f5⟩
      · rcases hset r hr with rfl | hr
        · rw [splice_length]; exact hm
        · exact f2 r hr
      · rcases hset r hr with rfl | hr
        · obtain ⟨q, hq⟩ := List.mem_iff_getElem?.1 hv
          rw [splice_get _ _ _ _ h5] at hq
          split at hq
          · exact oneV_cell (c2 v (List.mem_of_getElem? hq))
          · exact f3 es (List.mem_of_getElem? hes) v (List.mem_of_getElem? hq)
        · exact f3 r hr v hv
      · rw [flat_set f1 f2 hes h5', splice_length, f4.1]; simp
      · simp [splice_length, r6]
      · rw [flat_set f1 f2 hes h5', ← r7]
        simp only [List.length_set]
        exact splice_take _ _ _ _ (by omega) (by simp [r6]; omega)
end
end Go.Proofs.Ytfbadfnhnaaeeaa
