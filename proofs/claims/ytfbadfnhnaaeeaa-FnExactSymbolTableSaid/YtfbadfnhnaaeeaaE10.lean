/- The abstract machine: appends, make, calls. -/
import Derived.Test.YtfbadfnhnaaeeaaE9
namespace Go.Proofs.Ytfbadfnhnaaeeaa
set_option linter.unusedSimpArgs false
set_option linter.unusedVariables false
open Go.RowKit

section
variable {P : Program} {w0 : World} {F : Nat → Prop} {G : Gh} {M : Mem} {w : World} {T : List V} {a : Act} {o : Oper} {d : Nat} {K : Act → World → Prop} {Q : Exit → Act → World → Prop}

theorem flat_len {l : List (List Value)} {sz : Nat} (hl : ∀ r ∈ l, r.length = sz) : l.flatten.length = l.length * sz := by
  rw [List.length_flatten]
  induction l with
  | nil => simp
  | cons r l ih =>
    simp only [List.map_cons, List.sum_cons, List.length_cons]
    rw [ih fun x hx => hl x (by simp [hx]), hl r (by simp), Nat.succ_mul]
    omega

/-- What an append needs of what it appends. -/
def Src (w : World) (sz : Nat) (x : Value) (l2 : List (List Value)) : Prop :=
  (∃ b c, x = .slice b l2.length c) ∧ (∀ r ∈ l2, r.length = sz) ∧ (∀ r ∈ l2, ∀ v ∈ r, v.oneCell' = true) ∧ (l2 ≠ [] → ∃ ad c, x = .slice (some ad) l2.length c ∧ ∀ j u, l2.flatten[j]? = some u → w.cell? (ad.add j) = some u)

theorem src_view {sz : Nat} {l2 : List (List Value)} {x : Value} (hR : Rel w0 F G M w) (h : ConcC w0 F G M (.view sz l2) x) : Src w sz x l2 := by
  obtain ⟨b, cap, rfl, h1, h2, h3, h4⟩ := h
  refine ⟨⟨b, cap, rfl⟩, h2, h3, fun hne => ?_⟩
  obtain ⟨B, ob, rfl, h5, h6⟩ := h4 hne
  refine ⟨_, cap, rfl, fun j u hu => ?_⟩
  rw [Addr.add_lit, World.cell?_of_block (w := w0) (hR.keep B h5)]
  have hsz : 0 < sz := by
    rcases Nat.eq_zero_or_pos sz with h0 | h0
    · have := (List.getElem?_eq_some_iff.1 hu).1
      rw [flat_len h2, h0] at this
      omega
    · exact h0
  rw [flat_div hsz h2] at hu
  cases hr : l2[j / sz]? with
  | none => rw [hr] at hu; cases hu
  | some r =>
    rw [hr] at hu
    have := h6 _ r _ u hr hu
    rwa [show ob + j / sz * sz + j % sz = ob + j by have := Nat.div_add_mod j sz; rw [Nat.mul_comm] at this; omega] at this
theorem src_slc {e : TypeId} {sz : Nat} {l2 : List (List Value)} {n : Nm} (hR : Rel w0 F G M w) (hn : M n = some (.fl e sz l2)) : Src w sz (G n) l2 := by
  obtain ⟨h1, h2, h3, h4, h5⟩ := hR.fl hn
  refine ⟨?_, h2, h3, fun hne => ?_⟩
  · rcases h4.2 with ⟨r1, r2⟩ | ⟨B, cap, cur, r1, _⟩
    · exact ⟨none, 0, by rw [r1, r2]⟩
    · exact ⟨_, _, r1⟩
  · rcases h4.2 with ⟨r1, r2⟩ | ⟨B, cap, cur, r1, _⟩
    · exact absurd (List.eq_nil_of_length_eq_zero r2) hne
    · exact ⟨_, cap, r1, h4.cells (g := B) (by rw [r1]; rfl)⟩

theorem run_append_zero {t ty e : TypeId} {i : TypeInfo} (ht : P.underlying t = some (.slice e)) (hi : P.info? e = some i) {v : Value} {n : Nat} {xs : List Value} {size : Nat} (hown : w.ownsRow 0 e size v n xs) (b : Option Addr) (c : Nat) :
    (Builtin.append_ #[t, t] ty #[v, .slice b 0 c]).run P w = .ok v w := by
  rcases hown.2 with ⟨rfl, rfl⟩ | ⟨g, cap, cur, rfl, _, _, hnc, _⟩
  · cases b <;> simp [Builtin.append_, run_underlying ht, sizeOf, typeInfo, hi, Builtin.lenOf, Builtin.firstCells, loadCells, loadCellsFrom]
  · cases b <;> simp [Builtin.append_, run_underlying ht, sizeOf, typeInfo, hi, Builtin.lenOf, Builtin.firstCells, loadCells, loadCellsFrom, hnc, storeCells]

theorem owns_zero {w : World} {b : Nat} {e : TypeId} {size : Nat} {v : Value} {n : Nat} {xs : List Value} (h : w.ownsRow b e size v n xs) : w.ownsRow 0 e size v n xs := by
  refine ⟨h.1, ?_⟩
  rcases h.2 with h2 | ⟨g, cap, cur, h1, h2, h3⟩
  · exact .inl h2
  · exact .inr ⟨g, cap, cur, h1, Nat.zero_le _, h3⟩
theorem append_any {t ty e : TypeId} {i : TypeInfo} {z : Value} (ht : P.underlying t = some (.slice e)) (hi : P.info? e = some i) (hz : i.zero = some z) (hzs : z.cells.size = i.size) (hsz : 0 < i.size) {v : Value} {n : Nat} {xs : List Value} (hown : w.ownsRow 0 e i.size v n xs)
    (ad : Addr) (m c : Nat) (news : List Value) (hl : news.length = m * i.size) (hnews : ∀ j u, news[j]? = some u → w.cell? (ad.add j) = some u) (h1 : ∀ u ∈ news, u.oneCell' = true) (h63 : n + m ≤ maxLen) (hb : (n + m) * i.bytes ≤ 140737488355328) :
    ∃ v' w', (Builtin.append_ #[t, t] ty #[v, .slice (some ad) m c]).run P w = .ok v' w' ∧ w'.ownsRow 0 e i.size v' (n + m) (xs ++ news) ∧ w.grownBy w' v.ownBlock ∧ ∀ B, v'.ownBlock = some B → v.ownBlock = some B ∨ w.heap.size ≤ B := by
  have none_grown : ∀ {w' : World} {row : Option Nat}, w.grownBy w' none → w.grownBy w' row := fun h => ⟨h.os, h.tape, h.output, h.size, fun k hk _ => h.block k hk (by simp)⟩
  have own_ge : ∀ {w' : World} {v' : Value} {n' : Nat} {xs' : List Value}, w'.ownsRow w.heap.size e i.size v' n' xs' → ∀ B, v'.ownBlock = some B → w.heap.size ≤ B := fun h B hB => (h.lt B hB).1
  rcases hown.2 with ⟨rfl, rfl⟩ | ⟨g, cap, cur, rfl, hbg, hg, hnc, hcm, hcs, htake⟩
  · have hown' : w.ownsRow w.heap.size e i.size (.slice none 0 0) 0 xs := ⟨hown.1, .inl ⟨rfl, rfl⟩⟩
    obtain ⟨v', w', r1, r2, r3, _⟩ := run_append_own (P := P) w w.heap.size t ty e i z i.size i.bytes ht hi hz rfl rfl hzs hsz _ 0 xs hown' ad m c news hl hnews h1 h63 hb (Nat.le_refl _)
    exact ⟨v', w', r1, owns_zero r2, r3, fun B hB => .inr (own_ge r2 B hB)⟩
  · by_cases hroom : n + m ≤ cap
    · obtain ⟨w', r1, r2, r3⟩ := run_append_fits (P := P) w 0 t ty e i i.size ht hi rfl g n cap xs hown ad m c news hl hnews h1 hroom
      exact ⟨_, w', r1, r2, by simpa [Value.ownBlock] using r3, fun B hB => .inl hB⟩
    · obtain ⟨v', w', r1, r2, r3⟩ := run_append_arg_grows (P := P) w t ty e i z i.size i.bytes ht hi hz rfl rfl hzs hsz ⟨g, 0, none⟩ n cap xs hown.1 (hown.cells (g := g) rfl) ad m c news hl hnews (by omega) h63 hb
      exact ⟨v', w', r1, owns_zero r2, none_grown r3, fun B hB => .inr (own_ge r2 B hB)⟩

/-- An append onto an own slice. -/
theorem app_does {t e : TypeId} {x y : Operand} {i : TypeInfo} {z : Value} (ho : o.op = .call { callee := .builtin .append, args := #[x, y], argTypes := #[t, t] }) (ht : P.underlying t = some (.slice e)) (hi : P.info? e = some i) (hz : i.zero = some z) (hzs : z.cells.size = i.size)
    {n : Nm} {l l2 : List (List Value)} (hR : Rel w0 F G M w) (hn : M n = some (.fl e i.size l)) (hx : a.eval x = G n) (hs : Src w i.size (a.eval y) l2) (hb : (l.length + l2.length) * i.bytes ≤ 140737488355328) (hm : l.length + l2.length ≤ 140737488355328)
    (hK : Next1 w0 F G M a o.dst K (.c (.slc n (l.length + l2.length))) (.upd n (.fl e i.size (l ++ l2)))) : o.wp P a w K Q := by
  obtain ⟨h1, h2, h3, h4, h5⟩ := hR.fl hn
  obtain ⟨s1, s2, s3, s4⟩ := hs
  have exec : ∀ v w', (Builtin.append_ #[t, t] o.type #[a.eval x, a.eval y]).run P w = .ok v w' → (execOp a.eval o).run P w = .ok (.value v) w' := fun v w' h => by
    simp [execOp, ho, resolve, invoke, builtin, h]
  by_cases hl2 : l2 = []
  · subst hl2
    obtain ⟨b, c, s1⟩ := s1
    have hrun := run_append_zero (ty := o.type) ht hi h4 b c
    rw [← hx, show (Value.slice b 0 c) = a.eval y by rw [s1]; rfl] at hrun
    refine wp_value (exec _ _ hrun) (hK _ _ G ?_ ?_ ?_)
    · have : M.set n (.fl e i.size (l ++ [])) = M := by
        funext m
        simp only [Mem.set]
        split
        · rename_i e; rw [e, hn]; simp
        · rfl
      simp only [Eff.app, this]
      exact hR
    · intro q u hq
      have : M.set n (.fl e i.size (l ++ [])) = M := by
        funext m
        simp only [Mem.set]
        split
        · rename_i e; rw [e, hn]; simp
        · rfl
      simp only [Eff.app, this]
      exact hq
    · rw [hx]
      refine ⟨_, i.size, (l ++ []).length, Mem.set_self _ _ _, rfl, by simp, ?_, fun _ => rfl⟩
      rcases h4.2 with ⟨r1, r2⟩ | ⟨B, cap, cur, r1, _⟩
      · exact ⟨none, 0, by rw [r1]; simp [r2]⟩
      · exact ⟨_, _, r1⟩
  · obtain ⟨ad, c, q1, q2⟩ := s4 hl2
    have hone : ∀ u ∈ l2.flatten, u.oneCell' = true := fun u hu => by
      obtain ⟨r, hr, hur⟩ := List.mem_flatten.1 hu
      exact s3 r hr u hur
    obtain ⟨v', w', r1, r2, r3, r4⟩ := append_any (ty := o.type) ht hi hz hzs h1 h4 ad l2.length c l2.flatten (flat_len s2) q2 hone (by simp only [maxLen]; omega) hb
    rw [← hx, ← q1] at r1
    have hturn : Turns (.fl e i.size l) (.fl e i.size (l ++ l2)) (G n) v' := ⟨rfl, rfl, by simp, fun h => by simp at h; exact absurd h hl2⟩
    have own_blk : ∀ {w1 : World} {g : Value} {n1 : Nat} {xs : List Value}, w1.ownsRow 0 e i.size g n1 xs → g.ownBlock = blkOf g := fun h => by
      rcases h.2 with ⟨f1, _⟩ | ⟨B', cap, cur, f1, _⟩ <;> rw [f1] <;> rfl
    have hblk := own_blk r2
    have hblk0 := own_blk h4
    have hkeep : Keeps w w' fun k => blkOf (G n) = some k := fun k hk hlt => r3.block k hlt (by rw [hblk0]; exact fun e => hk e.symm)
    have hshape : ∃ b cap, v' = .slice b (l.length + l2.length) cap := by
      rcases r2.2 with ⟨f1, f2⟩ | ⟨B', cap, cur, f1, _⟩
      · exact ⟨none, 0, by rw [f1, f2]⟩
      · exact ⟨_, _, f1⟩
    refine wp_value (exec _ _ r1) (hK _ _ _ (hR.upd hn hturn r3.os r3.tape r3.output r3.size hkeep (fun B hB => ?_) ⟨h1, ?_, ?_, by simpa using r2, fun B hB hF => ?_⟩) (fun q u hq => hq.upd hn hturn) ?_)
    · rw [← hblk0]
      exact r4 B (by rw [hblk]; exact hB)
    · intro r hr
      rcases List.mem_append.1 hr with hr | hr
      · exact h2 r hr
      · exact s2 r hr
    · intro r hr
      rcases List.mem_append.1 hr with hr | hr
      · exact h3 r hr
      · exact s3 r hr
    · rcases r4 B hB with h | h
      · exact h5 B h hF
      · have := hR.bd _ hF
        have := hR.size
        omega
    · exact ⟨_, i.size, (l ++ l2).length, Mem.set_self _ _ _, rfl, by simp, hshape, fun _ => (Gh.set_self _ _ _).symm⟩

theorem ConcCs.app {l l2 : List C} {vs vs2 : List Value} (h : ConcCs w0 F G M l vs) (h2 : ConcCs w0 F G M l2 vs2) : ConcCs w0 F G M (l ++ l2) (vs ++ vs2) :=
  ⟨by simp [h.1, h2.1], fun j x hx => by
    by_cases hj : j < l.length
    · rw [List.getElem?_append_left hj] at hx
      rw [List.getElem?_append_left (by rw [h.1]; exact hj)]
      exact h.2 j x hx
    · rw [List.getElem?_append_right (by omega)] at hx
      rw [List.getElem?_append_right (by rw [h.1]; omega), h.1]
      exact h2.2 _ x hx⟩

/-- An append onto an own slice of cells. -/
theorem app_doesC {t e e2 : TypeId} {x y : Operand} {i : TypeInfo} {z : Value} (ho : o.op = .call { callee := .builtin .append, args := #[x, y], argTypes := #[t, t] }) (ht : P.underlying t = some (.slice e)) (hi : P.info? e = some i) (hz : i.zero = some z) (hzs : z.cells.size = i.size) (hs1 : i.size = 1)
    {n m : Nm} {l l2 : List C} (hR : Rel w0 F G M w) (hn : M n = some (.cs e l)) (hm : M m = some (.cs e2 l2)) (hx : a.eval x = G n) (hy : a.eval y = G m) (hb : (l.length + l2.length) * i.bytes ≤ 140737488355328) (hmx : l.length + l2.length ≤ 140737488355328)
    (hK : Next1 w0 F G M a o.dst K (.c (.slc n (l.length + l2.length))) (.upd n (.cs e (l ++ l2)))) : o.wp P a w K Q := by
  obtain ⟨vs, h1, h3, h4, h5⟩ := hR.own n _ hn
  obtain ⟨vs2, s1, s3, s4, s5⟩ := hR.own m _ hm
  rw [← hs1] at h4 s4
  have exec : ∀ v w', (Builtin.append_ #[t, t] o.type #[a.eval x, a.eval y]).run P w = .ok v w' → (execOp a.eval o).run P w = .ok (.value v) w' := fun v w' h => by
    simp [execOp, ho, resolve, invoke, builtin, h]
  by_cases hl2 : l2 = []
  · subst hl2
    have hG : ∃ b c, G m = .slice b 0 c := by
      rcases s4.2 with ⟨r1, r2⟩ | ⟨B, cap, cur, r1, _⟩
      · exact ⟨none, 0, r1⟩
      · exact ⟨_, _, r1⟩
    obtain ⟨b, c, hG⟩ := hG
    have hrun := run_append_zero (ty := o.type) ht hi h4 b c
    rw [← hx, show (Value.slice b 0 c) = a.eval y by rw [hy, hG]] at hrun
    have hsame : M.set n (.cs e (l ++ [])) = M := by
      funext m
      simp only [Mem.set]
      split
      · rename_i e; rw [e, hn]; simp
      · rfl
    refine wp_value (exec _ _ hrun) (hK _ _ G ?_ ?_ ?_)
    · simp only [Eff.app, hsame]
      exact hR
    · intro q u hq
      simp only [Eff.app, hsame]
      exact hq
    · rw [hx]
      refine ⟨_, 1, (l ++ []).length, Mem.set_self _ _ _, rfl, by simp, ?_, fun _ => rfl⟩
      rcases h4.2 with ⟨r1, r2⟩ | ⟨B, cap, cur, r1, _⟩
      · exact ⟨none, 0, by rw [r1]; simp [r2]⟩
      · exact ⟨_, _, r1⟩
  · have hsrc : ∃ B c, G m = .slice (some ⟨B, 0, none⟩) l2.length c := by
      rcases s4.2 with ⟨r1, r2⟩ | ⟨B, cap, cur, r1, _⟩
      · exact absurd (List.eq_nil_of_length_eq_zero r2) hl2
      · exact ⟨_, _, r1⟩
    obtain ⟨B2, c, q1⟩ := hsrc
    have q2 := s4.cells (g := B2) (by rw [q1]; rfl)
    obtain ⟨v', w', r1, r2, r3, r4⟩ := append_any (ty := o.type) ht hi hz hzs (by omega) h4 ⟨B2, 0, none⟩ l2.length c vs2 (by rw [s1.1, hs1, Nat.mul_one]) q2 s3 (by simp only [maxLen]; omega) hb
    rw [← hx, ← q1, ← hy] at r1
    have hturn : Turns (.cs e l) (.cs e (l ++ l2)) (G n) v' := ⟨rfl, by simp, fun h => by simp at h; exact absurd h hl2⟩
    have own_blk : ∀ {w1 : World} {g : Value} {n1 : Nat} {xs : List Value}, w1.ownsRow 0 e i.size g n1 xs → g.ownBlock = blkOf g := fun h => by
      rcases h.2 with ⟨f1, _⟩ | ⟨B', cap, cur, f1, _⟩ <;> rw [f1] <;> rfl
    have hblk := own_blk r2
    have hblk0 := own_blk h4
    have hkeep : Keeps w w' fun k => blkOf (G n) = some k := fun k hk hlt => r3.block k hlt (by rw [hblk0]; exact fun e => hk e.symm)
    have hshape : ∃ b cap, v' = .slice b (l.length + l2.length) cap := by
      rcases r2.2 with ⟨f1, f2⟩ | ⟨B', cap, cur, f1, _⟩
      · exact ⟨none, 0, by rw [f1, f2]⟩
      · exact ⟨_, _, f1⟩
    refine wp_value (exec _ _ r1) (hK _ _ _ (hR.upd hn hturn r3.os r3.tape r3.output r3.size hkeep (fun B hB => ?_) ⟨vs ++ vs2, (h1.app s1).mono fun q u hq => hq.upd hn hturn, fun v hv => ?_, ?_, fun B hB hF => ?_⟩) (fun q u hq => hq.upd hn hturn) ?_)
    · rw [← hblk0]
      exact r4 B (by rw [hblk]; exact hB)
    · rcases List.mem_append.1 hv with hv | hv
      · exact h3 v hv
      · exact s3 v hv
    · rw [hs1] at r2
      simpa using r2
    · rcases r4 B hB with h | h
      · exact h5 B h hF
      · have := hR.bd _ hF
        have := hR.size
        omega
    · exact ⟨_, 1, (l ++ l2).length, Mem.set_self _ _ _, rfl, by simp, hshape, fun _ => (Gh.set_self _ _ _).symm⟩

theorem sound_app {t e : TypeId} {x y : Operand} {x' y' : Opd} {i : TypeInfo} {z : Value} (ho : o.op = .call { callee := .builtin .append, args := #[x, y], argTypes := #[t, t] }) (ht : P.underlying t = some (.slice e)) (hi : P.info? e = some i) (hz : i.zero = some z) (hzs : z.cells.size = i.size)
    (hx : copd x = some x') (hy : copd y = some y') {k : V → Eff → List Nm → Prop} : Sound P M T d o (.app e i.size i.bytes x' y') k := fun h => by
  obtain ⟨u, h0, hv⟩ := evK_ex hx h
  match u, h0 with
  | .c (.slc n len), ⟨.cs e' l, hn, h⟩ =>
    obtain ⟨u2, h1, hv2⟩ := evK_ex hy h
    match u2, h1 with
    | .c (.slc m len2), ⟨.cs e2 l2, hm, ⟨he, hs1⟩, hl, hl2, hb, hb2, h2⟩ =>
      subst he
      refine ⟨_, _, _, h2, fun w0 F G M' T' g1 g2 hok a w K Q hR hT hK => ?_⟩
      have hn' := (g2 n (by simp)).trans hn
      have hm' := (g2 m (by simp)).trans hm
      obtain ⟨_, _, _, q1, q0, _, _, q2⟩ := hv w0 F G M' T' a (fun q hq => g1 q (by simp [tmpsA, hq])) hT
      rw [hn'] at q1
      obtain rfl := Option.some.inj q1
      simp only [arrB, Option.some.injEq, Prod.mk.injEq] at q0
      obtain ⟨_, rfl⟩ := q0
      obtain ⟨_, _, _, q3, q5, _, _, q4⟩ := hv2 w0 F G M' T' a (fun q hq => g1 q (by simp [tmpsA, hq])) hT
      rw [hm'] at q3
      obtain rfl := Option.some.inj q3
      simp only [arrB, Option.some.injEq, Prod.mk.injEq] at q5
      obtain ⟨_, rfl⟩ := q5
      exact app_doesC ho ht hi hz hzs hs1 hR hn' hm' (q2 hl) (q4 hl2) hb hb2 hK
  | .c (.slc n len), ⟨.fl e' sz' l, hn, h⟩ =>
    obtain ⟨u2, h1, hv2⟩ := evK_ex hy h
    match u2, h1 with
    | .c (.slc m len2), ⟨.fl e2 sz2 l2, hm, ⟨he, hs1, hs2⟩, hl, hl2, hb, hb2, h2⟩ =>
      subst he hs1 hs2
      refine ⟨_, _, _, h2, fun w0 F G M' T' g1 g2 hok a w K Q hR hT hK => ?_⟩
      have hn' := (g2 n (by simp)).trans hn
      have hm' := (g2 m (by simp)).trans hm
      obtain ⟨_, _, _, q1, q0, _, _, q2⟩ := hv w0 F G M' T' a (fun q hq => g1 q (by simp [tmpsA, hq])) hT
      rw [hn'] at q1
      obtain rfl := Option.some.inj q1
      simp only [arrB, Option.some.injEq, Prod.mk.injEq] at q0
      obtain ⟨_, rfl⟩ := q0
      obtain ⟨_, _, _, q3, q5, _, _, q4⟩ := hv2 w0 F G M' T' a (fun q hq => g1 q (by simp [tmpsA, hq])) hT
      rw [hm'] at q3
      obtain rfl := Option.some.inj q3
      simp only [arrB, Option.some.injEq, Prod.mk.injEq] at q5
      obtain ⟨_, rfl⟩ := q5
      exact app_does ho ht hi hz hzs hR hn' (q2 hl) (by rw [q4 hl2]; exact src_slc hR hm') hb hb2 hK
    | .c (.view sz2 l2), ⟨⟨he, hs1, hs2⟩, hl, hb, hb2, h2⟩ =>
      subst he hs1 hs2
      refine ⟨_, _, _, h2, fun w0 F G M' T' g1 g2 hok a w K Q hR hT hK => ?_⟩
      have hn' := (g2 n (by simp)).trans hn
      obtain ⟨_, _, _, q1, q0, _, _, q2⟩ := hv w0 F G M' T' a (fun q hq => g1 q (by simp [tmpsA, hq])) hT
      rw [hn'] at q1
      obtain rfl := Option.some.inj q1
      simp only [arrB, Option.some.injEq, Prod.mk.injEq] at q0
      obtain ⟨_, rfl⟩ := q0
      exact app_does ho ht hi hz hzs hR hn' (q2 hl) (src_view hR (hv2 w0 F G M' T' a (fun q hq => g1 q (by simp [tmpsA, hq])) hT)) hb hb2 hK

theorem sound_mks {t e : TypeId} {x : Operand} {x' : Opd} {i : TypeInfo} {z : Value} (ho : o.op = .makeSlice t x x) (ht : P.underlying t = some (.slice e)) (hi : P.info? e = some i) (hz : i.zero = some z) (hzs : z.cells.size = i.size) (hsz : 0 < i.size) (hone : oneVs z.cells.toList = true)
    (hx : copd x = some x') {k : V → Eff → List Nm → Prop} : Sound P M T d o (.mks e i.size i.bytes z.cells.toList x') k := fun h => by
  obtain ⟨u, h0, hv⟩ := evK_ex hx h
  match u, h0 with
  | .c (.pv (.int .i64 n)), ⟨h1, h2, h3, h4⟩ =>
    refine ⟨_, _, _, h4, fun w0 F G M' T' g1 g2 hok a w K Q hR hT hK => ?_⟩
    have e1 : a.eval x = .int .i64 n := hv w0 F G M' T' a g1 hT
    have hrun := run_make (P := P) w t e i z ht hi hz .i64 .i64 n n h1 (Int.le_refl _) (by omega) (by omega)
    have hl : ∀ r ∈ List.replicate n.toNat z.cells.toList, r.length = i.size := fun r hr => by rw [List.eq_of_mem_replicate hr]; simpa using hzs
    have hflat : (madeCells z.cells (n.toNat * i.size)).toList = (List.replicate n.toNat z.cells.toList).flatten := by
      apply List.ext_getElem?
      intro q
      rw [flat_div hsz hl, List.getElem?_replicate]
      simp only [madeCells, Array.toList_map, Array.toList_range, List.getElem?_map]
      by_cases c : q < n.toNat * i.size
      · have c2 : q / i.size < n.toNat := Nat.div_lt_of_lt_mul (by rw [Nat.mul_comm]; exact c)
        have hm : q % i.size < z.cells.size := by rw [hzs]; exact Nat.mod_lt _ hsz
        rw [List.getElem?_range c, if_pos c2]
        simp [hzs, getElem!_def, Array.getElem?_eq_getElem hm]
      · have c2 : ¬ q / i.size < n.toNat := fun h => c (by
          have := Nat.lt_mul_of_div_lt h hsz
          first | exact this | (rw [Nat.mul_comm] at this; exact this))
        rw [if_neg c2, List.getElem?_eq_none (by simpa using c)]
        rfl
    have h7 := rel_fl (e := e) (vs := madeCells z.cells (n.toNat * i.size)) hR hok.1 hsz hl (fun r hr v hv => oneV_cell (oneVs_iff.1 hone v (by rw [List.eq_of_mem_replicate hr] at hv; exact hv))) hflat (by simp only [List.length_replicate, maxLen]; omega)
    simp only [List.length_replicate] at h7
    refine wp_value (v := .slice (some ⟨w.heap.size, 0, none⟩) n.toNat n.toNat) (w' := w.alloc (.cells (madeCells z.cells (n.toNat * i.size)) e)) ?_ (hK _ _ _ h7 (fun x u hx => hx.new hok.1) ?_)
    · simp [execOp, ho, e1, hrun]
    · exact ⟨_, i.size, _, Mem.set_self _ _ _, rfl, by simp, ⟨_, _, rfl⟩, fun _ => (Gh.set_self _ _ _).symm⟩
end
end Go.Proofs.Ytfbadfnhnaaeeaa
